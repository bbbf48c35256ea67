/- The law's end and goes. The law's Does: what a table does with a text. A square of bools that is filled row by row into a list made ahead. 'MinsDoes': the walk. 'MinsDoes' for whatever table and runes are handed in: true, and all reads as it did. No condition. -/
import Derived.Test.YtodohgckncnipaaGA5
import Derived.Test.YtodohgckncnipaaGB2
import Derived.SizedLaws
import Derived.OpenShut
import Derived.ShutString
import Derived.ChangeOld
import Derived.ProofKit
/- The law's end and goes. -/
namespace Go.Proofs.Ytodohgckncnipaa
open Go.RowKit

set_option maxRecDepth 100000 in
set_option maxHeartbeats 2000000 in
theorem lawEnd_any (t : TabD) (rs cs ns es : Sl) (B a : Nat) (w : World) (h : TabIn w B rs cs ns es t) (hm : MayS t) (ha : a ≤ t.n.length) :
    Calls Try.prog 20 #[tabV rs cs ns es, .int .i64 a] w fun e w' => e = .returned (.int .i64 (endN t a)) ∧ Chg (fun _ => False) w w' := by
  have HTB := Lib.hid h
  have HM := Lib.hid hm
  obtain ⟨ra, rn, rc⟩ := rs
  obtain ⟨ca, cn, cc⟩ := cs
  obtain ⟨na, nn, nc⟩ := ns
  obtain ⟨ea, en, ec⟩ := es
  obtain ⟨rfl, hn1⟩ := h.n.len
  obtain ⟨rfl, he1⟩ := h.e.len
  have hel := hm.el
  clear h hm
  obtain ⟨wa, hwa⟩ : ∃ x, x = w.alloc (.cells #[.slice ra rn rc, .slice ca cn cc, .slice na t.n.length nc, .slice ea t.e.length ec] 26) := ⟨_, rfl⟩
  have HC0 : Hid (Chg (fun _ => False) w wa) := Lib.hid (by rw [hwa]; exact (Chg.refl _ _).alloc _)
  obtain ⟨q0, q1, q2, q3⟩ : wa.cell? ⟨w.heap.size, 0, none⟩ = some (.slice ra rn rc) ∧ wa.cell? ⟨w.heap.size, 1, none⟩ = some (.slice ca cn cc) ∧ wa.cell? ⟨w.heap.size, 2, none⟩ = some (.slice na t.n.length nc) ∧ wa.cell? ⟨w.heap.size, 3, none⟩ = some (.slice ea t.e.length ec) := by
    rw [hwa]
    exact tabBox w (ra, rn, rc) (ca, cn, cc) (na, t.n.length, nc) (ea, t.e.length, ec) _
  have HWA := Lib.hid hwa
  have HEL := Lib.hid hel
  clear hwa hel
  show Calls Try.prog 20 #[.agg #[.slice ra rn rc, .slice ca cn cc, .slice na t.n.length nc, .slice ea t.e.length ec], .int .i64 a] w _
  by_cases hal : a < t.n.length
  · have d1 : ((a : Int) == (t.n.length : Int)) = false := by simp; omega
    have d2 : (a == t.n.length) = false := by simp; omega
    obtain ⟨x, g, o, hx, hea, c0, x0, x1, -, -⟩ := (HTB.out.same HC0.out).e.getI (k := a) (by have := HEL.out; omega)
    subst hea
    have HX : Hid (endN t a = x) := Lib.hid (endN_at HM.out hx)
    have hael : a < t.e.length := by have := HEL.out; omega
    clear hx
    go_enter Try.func20, Try.ntmps20
    go_upto_region 1 with (fail)
    rw [← HWA.out]
    go_wp2
    go_ret
    exact ⟨by rw [HX.out]; rfl, HC0.out⟩
  · obtain rfl : a = t.n.length := by omega
    have HX : Hid (endN t t.n.length = -1) := Lib.hid (endN_none t)
    go_enter Try.func20, Try.ntmps20
    go_upto_region 1 with (fail)
    rw [← HWA.out]
    go_wp2
    go_ret
    exact ⟨by rw [HX.out]; rfl, HC0.out⟩

set_option maxRecDepth 100000 in
set_option maxHeartbeats 2000000 in
theorem lawGoes_any (t : TabD) (rs cs ns es : Sl) (B a c : Nat) (w : World) (h : TabIn w B rs cs ns es t) (hm : MayS t) (ha : a ≤ t.n.length) (hc : c < colsN t) :
    Calls Try.prog 21 #[tabV rs cs ns es, .int .i64 a, .int .i64 c] w fun e w' => e = .returned (.int .i64 (goN t a c)) ∧ Chg (fun _ => False) w w' := by
  have HTB := Lib.hid h
  have HM := Lib.hid hm
  obtain ⟨ra, rn, rc⟩ := rs
  obtain ⟨ca, cn, cc⟩ := cs
  obtain ⟨na, nn, nc⟩ := ns
  obtain ⟨ea, en, ec⟩ := es
  obtain ⟨rfl, hn1⟩ := h.n.len
  clear h hm
  obtain ⟨wa, hwa⟩ : ∃ x, x = w.alloc (.cells #[.slice ra rn rc, .slice ca cn cc, .slice na t.n.length nc, .slice ea en ec] 26) := ⟨_, rfl⟩
  have HC0 : Hid (Chg (fun _ => False) w wa) := Lib.hid (by rw [hwa]; exact (Chg.refl _ _).alloc _)
  obtain ⟨q0, q1, q2, q3⟩ : wa.cell? ⟨w.heap.size, 0, none⟩ = some (.slice ra rn rc) ∧ wa.cell? ⟨w.heap.size, 1, none⟩ = some (.slice ca cn cc) ∧ wa.cell? ⟨w.heap.size, 2, none⟩ = some (.slice na t.n.length nc) ∧ wa.cell? ⟨w.heap.size, 3, none⟩ = some (.slice ea en ec) := by
    rw [hwa]
    exact tabBox w (ra, rn, rc) (ca, cn, cc) (na, t.n.length, nc) (ea, en, ec) _
  have HWA := Lib.hid hwa
  clear hwa
  show Calls Try.prog 21 #[.agg #[.slice ra rn rc, .slice ca cn cc, .slice na t.n.length nc, .slice ea en ec], .int .i64 a, .int .i64 c] w _
  by_cases hal : a < t.n.length
  · have d1 : ((a : Int) == (t.n.length : Int)) = false := by simp; omega
    have d2 : (a == t.n.length) = false := by simp; omega
    obtain ⟨l, gn, on, la, lc, hl, hna, n0, hin, -, -⟩ := (HTB.out.same HC0.out).n.getIn hal
    subst hna
    obtain ⟨hll, hlb⟩ := may_row HM.out hl
    obtain ⟨x, g, o, hx, hea, c0, x0, x1, -, -⟩ := hin.getI (k := c) (by omega)
    subst hea
    have hcl2 : c < l.length := by omega
    have HL : Hid (l.length = colsN t) := Lib.hid hll
    have HXB := Lib.hid (hlb c x hx)
    by_cases hx0 : x < 0
    · have HX : Hid (goN t a c = t.n.length) := Lib.hid (by rw [goN_at hl hx, if_neg (by omega)])
      have d3 : decide (x < 0) = true := by simpa using hx0
      clear hl hin hx hll hlb
      go_enter Try.func21, Try.ntmps21
      go_upto_region 1 with (fail)
      rw [← HWA.out]
      go_wp2
      go_ret
      exact ⟨by rw [HX.out]; rfl, HC0.out⟩
    · have HX : Hid (goN t a c = x.toNat) := Lib.hid (by rw [goN_at hl hx, if_pos (by omega)])
      have d3 : decide (x < 0) = false := by simpa using hx0
      clear hl hin hx hll hlb
      go_enter Try.func21, Try.ntmps21
      go_upto_region 1 with (fail)
      rw [← HWA.out]
      go_wp2
      go_ret
      exact ⟨by rw [HX.out, Int.toNat_of_nonneg (by omega)]; rfl, HC0.out⟩
  · obtain rfl : a = t.n.length := by omega
    have HX : Hid (goN t t.n.length c = t.n.length) := Lib.hid (goN_none t c)
    go_enter Try.func21, Try.ntmps21
    go_upto_region 1 with (fail)
    rw [← HWA.out]
    go_wp2
    go_ret
    exact ⟨by rw [HX.out]; rfl, HC0.out⟩
end Go.Proofs.Ytodohgckncnipaa
/- The law's Does: what a table does with a text. -/
namespace Go.Proofs.Ytodohgckncnipaa
open Go.RowKit

def runeE : Elt Int where
  enc := fun x => [.int .i32 x]
  sz := 1
  bs := 4
  e := 21
  sl := 44
  z := 0
  zv := .int .i32 0
  ok := I32
  pos := by omega
  len := fun _ => rfl
  one := fun a u hu => by
    simp only [List.mem_cons, List.not_mem_nil, or_false] at hu
    subst hu; rfl
  zok := by decide
  info := by kernel_rfl
  zc := rfl
  und := by kernel_rfl
  bsl := by omega
theorem Elt.In.getU {w : World} {B : Nat} {a : Option Addr} {n c : Nat} {L : List Int} (h : runeE.In w B (a, n, c) L) {k : Nat} (hk : k < L.length) :
    ∃ (x : Int) (g o : Nat), L[k]? = some x ∧ a = some ⟨g, o, none⟩ ∧ w.cell? ⟨g, o + k, none⟩ = some (.int .i32 x) := by
  obtain ⟨h1, h2, g, o, h3, h4⟩ := h
  have hx : L[k]? = some L[k] := List.getElem?_eq_getElem hk
  have hc := h3.get hx (i := 0) (u := .int .i32 L[k]) rfl
  rw [Nat.add_zero, show runeE.sz = 1 from rfl, Nat.mul_one] at hc
  exact ⟨L[k], g, o, hx, (h4 (by omega)).1, hc⟩
/-- A state as the program numbers it: nowhere is -1. -/
def decN (t : TabD) (d : Nat) : Int := if d < t.n.length then (d : Int) else -1
theorem step_dec {t : TabD} (ht : MayS t) {s : Nat} (hs : s < t.n.length) (x : Int) : stepT t (s : Int) x = decN t (stN t s x) := by
  have e0 : decN t t.n.length = -1 := by unfold decN; rw [if_neg (by omega)]
  rcases classL_cases t.r x with ⟨h1, hno⟩ | ⟨i, p, hp, h1, h2, h3⟩
  · have : stN t s x = t.n.length := by unfold stN; rw [if_pos (by omega)]
    rw [this, e0]
    rcases stepT_cases t s x with ⟨-, h⟩ | ⟨h, -⟩ | ⟨h, -⟩ | ⟨h, -⟩ | ⟨i, s', c, l, h, -⟩
    · exact h
    all_goals omega
  · have hil := (List.getElem?_eq_some_iff.1 hp).1
    have hcl := ht.cl
    rcases stepT_cases t s x with ⟨h, -⟩ | ⟨-, h, -⟩ | ⟨-, -, h, -⟩ | ⟨-, -, -, h, -⟩ | ⟨i', s', c, l, h4, h5, h6, h7, h8, h9, h10⟩
    · omega
    · omega
    · omega
    · omega
    · obtain rfl : i' = i := by omega
      obtain rfl : s' = s := by omega
      have hcb := ht.cb c (List.mem_of_getElem? h8)
      obtain ⟨hl, hlb⟩ := may_row ht h9
      have hcc : c < (colsN t : Int) := by
        have := colsL_mem (C := t.c) (c := c) (List.mem_of_getElem? h8)
        have := (ht.row l (List.mem_of_getElem? h9)).1
        omega
      have e1 : stN t s' x = goN t s' c.toNat := by
        unfold stN
        rw [h3, if_neg (by omega), Int.toNat_natCast, List.getD_eq_getElem?_getD, h8]
        rfl
      rcases h10 with ⟨h, -⟩ | ⟨-, h, -⟩ | ⟨k, y, rfl, hk, hy, he⟩
      · omega
      · omega
      · rw [he, e1, Int.toNat_natCast, goN_at h9 hy]
        have := hlb k y hy
        unfold decN
        by_cases h0 : 0 ≤ y
        · rw [if_pos h0, if_pos (by omega)]; omega
        · rw [if_neg h0, if_neg (by omega)]; omega

set_option maxRecDepth 100000 in
set_option maxHeartbeats 4000000 in
theorem does_any (t : TabD) (rs cs ns es : Sl) (B B' : Nat) (la : Option Addr) (lc : Nat) (l : List Int) (w : World) (h : TabIn w B rs cs ns es t) (hf : Fair t) (hm : MayS t) (hl : runeE.In w B' (la, l.length, lc) l) (hll : l.length ≤ 1000) :
    Calls Try.prog 19 #[tabV rs cs ns es, .slice la l.length lc] w fun e w' => e = .returned (.int .i64 (doesN t 0 l)) ∧ Chg (fun _ => False) w w' := by
  have HTB := Lib.hid h
  have HF := Lib.hid hf
  have HM := Lib.hid hm
  have HLI := Lib.hid hl
  obtain ⟨ra, rn, rc⟩ := rs
  obtain ⟨ca, cn, cc⟩ := cs
  obtain ⟨na, nn, nc⟩ := ns
  obtain ⟨ea, en, ec⟩ := es
  obtain ⟨rfl, he1⟩ := h.e.len
  have HEL := Lib.hid hm.el
  have HNL := Lib.hid hm.nl
  have HFN := Lib.hid hf.n
  clear h hf hm hl
  obtain ⟨wa, hwa⟩ : ∃ x, x = w.alloc (.cells #[.slice ra rn rc, .slice ca cn cc, .slice na nn nc, .slice ea t.e.length ec] 26) := ⟨_, rfl⟩
  have HC0 : Hid (Chg (fun _ => False) w wa) := Lib.hid (by rw [hwa]; exact (Chg.refl _ _).alloc _)
  have HBX : Hid (∀ wx, Chg (fun _ => False) wa wx → wx.cell? ⟨w.heap.size, 0, none⟩ = some (.slice ra rn rc) ∧ wx.cell? ⟨w.heap.size, 1, none⟩ = some (.slice ca cn cc) ∧ wx.cell? ⟨w.heap.size, 2, none⟩ = some (.slice na nn nc) ∧ wx.cell? ⟨w.heap.size, 3, none⟩ = some (.slice ea t.e.length ec)) := Lib.hid (fun wx hx => by
    have h1 : TabAt wa w.heap.size (ra, rn, rc) (ca, cn, cc) (na, nn, nc) (ea, t.e.length, ec) := by rw [hwa]; exact tabBox w (ra, rn, rc) (ca, cn, cc) (na, nn, nc) (ea, t.e.length, ec) 26
    exact h1.chg hx (fun h => h))
  have HWA := Lib.hid hwa
  clear hwa
  show Calls Try.prog 19 #[.agg #[.slice ra rn rc, .slice ca cn cc, .slice na nn nc, .slice ea t.e.length ec], .slice la l.length lc] w _
  go_enter Try.func19, Try.ntmps19
  go_upto_region 1 with (fail)
  rw [← HWA.out]
  go_wp2
  go_loopw [5, 6] (fun s i wr => ∃ (k d : Nat), k ≤ l.length ∧ d ≤ t.n.length ∧ s = .int .i64 (decN t d) ∧ i = .int .i64 k ∧ Hid (doesN t d (l.drop k) = doesN t 0 l) ∧ Chg (fun _ => False) wa wr) (fun _ i _ => l.length - (intOf i).toNat)
  case atStart => exact ⟨0, 0, by omega, by omega, by unfold decN; rw [if_pos HNL.out]; rfl, rfl, Lib.hid rfl, Chg.refl _ _⟩
  case round =>
    obtain ⟨k, d, hk, hd, rfl, rfl, HD, hc⟩ := hrel
    have HC := Lib.hid hc
    clear hc
    by_cases hdn : d < t.n.length
    · have e : decN t d = (d : Int) := by unfold decN; rw [if_pos hdn]
      rw [e]
      clear e
      have hd0 : decide ((0 : Int) ≤ (d : Int)) = true := by simp
      by_cases hkl : k < l.length
      · have hb1 : decide ((k : Int) < (l.length : Int)) = true := by simp; omega
        obtain ⟨x, g, o, hx, hga, c0⟩ := (HLI.out.same (HC0.out.trans HC.out)).getU hkl
        subst hga
        obtain ⟨y, hy⟩ : ∃ y, stepT t (d : Int) x = y := ⟨_, rfl⟩
        have HX : Hid (l[k]? = some x ∧ stepT t (d : Int) x = y) := Lib.hid ⟨hx, hy⟩
        have HK := Lib.hid c0
        clear hx hy
        go_upto_region 5 with (fail)
        clear c0
        refine wp_region_same (fun w' => Chg (fun _ => False) wr w') (by kernel_rfl) (by kernel_rfl) ?_ ?_
        · exact (Chg.refl _ _).drew
        (refine wpC_read rfl (fun _ _ _ h => h) (fun K hK => ?_); apply Exists.intro; refine ⟨fun _ w' _ hC => ?_, ?_⟩; ((obtain ⟨q0, q1, q2, q3⟩ := HBX.out w' (HC.out.trans hC); have c0 := hC.cellS HK.out (fun h => h)); go_simp; try with_reducible rfl); (try go_simp); refine hK _ ?_; clear hK K); (refine wpC_read rfl (fun _ _ _ h => h) (fun K hK => ?_); apply Exists.intro; refine ⟨fun _ w' _ hC => ?_, ?_⟩; ((skip); go_simp; try with_reducible rfl); (try go_simp); refine hK _ ?_; clear hK K); (refine wpC_read rfl (fun _ _ _ h => h) (fun K hK => ?_); apply Exists.intro; refine ⟨fun _ w' _ hC => ?_, ?_⟩; ((skip); go_simp; try with_reducible rfl); (try go_simp); refine hK _ ?_; clear hK K); (refine wpC_read rfl (fun _ _ _ h => h) (fun K hK => ?_); apply Exists.intro; refine ⟨fun _ w' _ hC => ?_, ?_⟩; ((skip); go_simp; try with_reducible rfl); (try go_simp); refine hK _ ?_; clear hK K); (refine wpC_read rfl (fun _ _ _ h => h) (fun K hK => ?_); apply Exists.intro; refine ⟨fun _ w' _ hC => ?_, ?_⟩; ((skip); go_simp; try with_reducible rfl); (try go_simp); refine hK _ ?_; clear hK K); (refine wpC_read rfl (fun _ _ _ h => h) (fun K hK => ?_); apply Exists.intro; refine ⟨fun _ w' _ hC => ?_, ?_⟩; ((obtain ⟨q0, q1, q2, q3⟩ := HBX.out w' (HC.out.trans hC); have c0 := hC.cellS HK.out (fun h => h)); go_simp; try with_reducible rfl); (try go_simp); refine hK _ ?_; clear hK K)
        refine wpC_call rfl (Value.int .i64 y )  24  ( #[.agg #[.slice ra rn rc, .slice ca cn cc, .slice na nn nc, .slice ea t.e.length ec], .int .i64 d, .int .i32 x]) (fun w' => by go_simp) (fun _ w' _ hC => ?_) (fun K hK => ?_)
        · refine (step_any t (ra, rn, rc) (ca, cn, cc) (na, nn, nc) (ea, t.e.length, ec) B d x w' (HTB.out.same (HC0.out.trans (HC.out.trans hC))) HF.out ⟨by omega, by have := HFN.out; omega⟩).mono ?_
          rintro e w2 ⟨rfl, hc⟩
          exact ⟨by rw [HX.out.2], hC.trans hc⟩
        ((try go_simp); refine hK _ ?_; clear hK K)
        (refine wpC_read rfl (fun _ _ _ h => h) (fun K hK => ?_); apply Exists.intro; refine ⟨fun _ w' _ hC => ?_, ?_⟩; ((skip); go_simp; try with_reducible rfl); (try go_simp); refine hK _ ?_; clear hK K)
        refine wpC_nil ?_
        intro w2 hC2
        have HC2 := Lib.hid (HC.out.trans hC2)
        clear hC2
        have HN : Hid (y = decN t (stN t d x) ∧ stN t d x ≤ t.n.length ∧ doesN t (stN t d x) (l.drop (k + 1)) = doesN t 0 l) := Lib.hid ⟨by rw [← HX.out.2]; exact step_dec HM.out hdn x, stN_le HM.out d x, by
          rw [← HD.out]
          have hx := HX.out.1
          obtain ⟨h1, rfl⟩ := List.getElem?_eq_some_iff.1 hx
          rw [List.drop_eq_getElem_cons hkl, doesN]⟩
        go_wp2
        go_roundw
        case rel => exact ⟨k + 1, stN t d x, by omega, HN.out.2.1, by rw [HN.out.1], by go_num, Lib.hid HN.out.2.2, HC2.out⟩
        case measure => simp [intOf]; omega
      · obtain rfl : k = l.length := by omega
        obtain ⟨x, g, o, hx, hga, c0, -, -, -, -⟩ := (HTB.out.same (HC0.out.trans HC.out)).e.getI (k := d) (by have := HEL.out; omega)
        subst hga
        have HX : Hid (doesN t 0 l = x) := Lib.hid (by rw [← HD.out, List.drop_length, doesN]; exact endN_at HM.out hx)
        have HCE := Lib.hid (HC0.out.trans HC.out)
        obtain ⟨q0, q1, q2, q3⟩ := HBX.out wr HC.out
        have d1 : decide ((d : Int) < 0) = false := by simp
        have d2 : decide ((t.e.length : Int) ≤ (d : Int)) = false := by have := HEL.out; simp; omega
        have d3 : d < t.e.length := by have := HEL.out; omega
        clear hx HD
        go_wp2
        go_ret
        exact ⟨by rw [HX.out]; rfl, HCE.out⟩
    · obtain rfl : d = t.n.length := by omega
      have e : decN t t.n.length = -1 := by unfold decN; rw [if_neg (by omega)]
      rw [e]
      clear e
      have HX : Hid (doesN t 0 l = -1) := Lib.hid (by rw [← HD.out, doesN_none])
      have HCE := Lib.hid (HC0.out.trans HC.out)
      clear HD
      by_cases hkl : k < l.length
      · have hb1 : decide ((k : Int) < (l.length : Int)) = true := by simp; omega
        go_wp2
        go_ret
        exact ⟨by rw [HX.out]; rfl, HCE.out⟩
      · obtain rfl : k = l.length := by omega
        go_wp2
        go_ret
        exact ⟨by rw [HX.out]; rfl, HCE.out⟩
end Go.Proofs.Ytodohgckncnipaa
/- A square of bools that is filled row by row into a list made ahead. -/
namespace Go.Proofs.Ytodohgckncnipaa
open Go.RowKit

theorem MatAt.room {w : World} {B g n : Nat} (h : boolsE.Row w g (List.replicate n boolsE.z)) (hB : B ≤ g) (hn : n ≤ 1000000) : MatAt w B (.slice (some ⟨g, 0, none⟩) 0 n) (fun _ _ => false) 0 n :=
  ⟨[], .inr ⟨g, _, by simp, hB, h, List.nil_prefix, by rw [List.length_replicate]; unfold maxLen; omega⟩, rfl, fun j y hy => by simp at hy⟩
/-- What lies where the next row is to be. -/
theorem MatAt.slot {w : World} {B g i n : Nat} {M : Nat → Nat → Bool} (h : MatAt w B (.slice (some ⟨g, 0, none⟩) i n) M i n) (hi : i < n) : ∃ s : Sl, w.cell? ⟨g, i, none⟩ = some (.slice s.1 s.2.1 s.2.2) ∧ w.frozen? ⟨g, i, none⟩ = false ∧ B ≤ g ∧ g < w.heap.size := by
  obtain ⟨X, h1, h2, h3⟩ := h.x
  rcases h1 with ⟨h1, -⟩ | ⟨g', C, h1, hB, hR, hp, hC⟩
  · cases h1
  · injection h1 with e1 e2 e3
    injection e1 with e1
    injection e1 with e1
    subst e1
    have hx : C[i]? = some C[i] := List.getElem?_eq_getElem (by omega)
    exact ⟨C[i], hR.get1 hx rfl rfl, hR.z i, hB, hR.lt⟩
/-- A row more. -/
theorem MatAt.fill {w w1 : World} {B g i n gr : Nat} {M : Nat → Nat → Bool} (h : MatAt w B (.slice (some ⟨g, 0, none⟩) i n) M i n) (hi : i < n) (hc : Chg (fun _ => False) w w1) (hB : B ≤ w.heap.size) (hg : w.heap.size ≤ gr) (hrow : boolE.Row w1 gr (List.replicate n false)) :
    MatAt (w1.setCell ⟨g, i, none⟩ (.slice (some ⟨gr, 0, none⟩) n n)) B (.slice (some ⟨g, 0, none⟩) (i + 1) n) (fun a b => if a = i then false else M a b) (i + 1) n ∧ Chg (fun k => k = g) w1 (w1.setCell ⟨g, i, none⟩ (.slice (some ⟨gr, 0, none⟩) n n)) := by
  obtain ⟨X, h1, h2, h3⟩ := h.x
  have hch := setCellChg w1 g i (.slice (some ⟨gr, 0, none⟩) n n)
  refine ⟨?_, hch⟩
  have h1' := h1
  rcases h1 with ⟨h1, -⟩ | ⟨g', C, h1, hBg, hR, hp, hC⟩
  · cases h1
  · injection h1 with e1 e2 e3
    injection e1 with e1
    injection e1 with e1
    subst e1
    have hXC : X = C.take i := by rw [List.prefix_iff_eq_take.1 hp, h2]
    refine MatAt.push h1' h2 h3 hc hg hB hrow ?_ (hch.mono (fun k _ e => by rw [e]; rfl)) (.inl rfl)
    refine .inr ⟨g, C.set i (some ⟨gr, 0, none⟩, n, n), ?_, hBg, (hR.chg hc (fun h => h)).set1 (x := (some ⟨gr, 0, none⟩, n, n)) (by omega) trivial rfl rfl, ?_, by rw [List.length_set]; exact hC⟩
    · rw [List.length_append, h2, List.length_set, ← e3]; rfl
    · have : C.set i (some ⟨gr, 0, none⟩, n, n) = (X ++ [(some ⟨gr, 0, none⟩, n, n)]) ++ C.drop (i + 1) := by
        rw [List.set_eq_take_append_cons_drop, if_pos (by omega), hXC, List.append_assoc, List.singleton_append]
      rw [this]
      exact List.prefix_append _ _
/-- Whether it has changed is not asked. -/
theorem ToldR.any {t : TabD} {r i j : Nat} {ch : Bool} {M : Nat → Nat → Bool} (h : ToldR t r i j ch M) : ToldR t r i j true M := ⟨h.toToldM, h.up, fun h => by cases h⟩
theorem setM_same {M : Nat → Nat → Bool} {i j : Nat} {b : Bool} (h : M i j = b) : setM M i j b = M := by
  funext a c
  unfold setM
  by_cases e : a = i ∧ c = j
  · rw [if_pos e, e.1, e.2, h]
  · rw [if_neg e]
end Go.Proofs.Ytodohgckncnipaa
/- 'MinsDoes': the walk. -/
namespace Go.Proofs.Ytodohgckncnipaa
open Go.RowKit

set_option maxRecDepth 100000 in
set_option maxHeartbeats 16000000 in
theorem lawDoes_any (t : TabD) (rs cs ns es : Sl) (B B' : Nat) (la : Option Addr) (ln lc : Nat) (l : List Int) (w : World) (h : TabIn w B rs cs ns es t) (hv : Vast t) (hl : runeE.In w B' (la, ln, lc) l) (hll : l.length ≤ 100000000000000) :
    Calls Try.prog 5 #[tabV rs cs ns es, .slice la ln lc] w fun e w' => e = .returned (.bool true) ∧ Chg (fun _ => False) w w' := by
  have HTB := Lib.hid h
  have HV := Lib.hid hv
  obtain ⟨ra, rn, rc⟩ := rs
  obtain ⟨ca, cn, cc⟩ := cs
  obtain ⟨na, nn, nc⟩ := ns
  obtain ⟨ea, en, ec⟩ := es
  obtain ⟨rfl, hn1⟩ := h.n.len
  obtain ⟨rfl, hl1⟩ := hl.len
  have HLI := Lib.hid hl
  clear h hv hl
  obtain ⟨wa, hwa⟩ : ∃ x, x = w.alloc (.cells #[.slice ra rn rc, .slice ca cn cc, .slice na t.n.length nc, .slice ea en ec] 26) := ⟨_, rfl⟩
  have HC0 : Hid (Chg (fun _ => False) w wa) := Lib.hid (by rw [hwa]; exact (Chg.refl _ _).alloc _)
  have HBX : Hid (∀ wx, Chg (fun _ => False) wa wx → wx.cell? ⟨w.heap.size, 0, none⟩ = some (.slice ra rn rc) ∧ wx.cell? ⟨w.heap.size, 1, none⟩ = some (.slice ca cn cc) ∧ wx.cell? ⟨w.heap.size, 2, none⟩ = some (.slice na t.n.length nc) ∧ wx.cell? ⟨w.heap.size, 3, none⟩ = some (.slice ea en ec)) := Lib.hid (fun wx hx => by
    have h1 : TabAt wa w.heap.size (ra, rn, rc) (ca, cn, cc) (na, t.n.length, nc) (ea, en, ec) := by rw [hwa]; exact tabBox w (ra, rn, rc) (ca, cn, cc) (na, t.n.length, nc) (ea, en, ec) 26
    exact h1.chg hx (fun h => h))
  have HWA := Lib.hid hwa
  clear hwa
  obtain ⟨q0, q1, q2, q3⟩ := HBX.out wa (Chg.refl _ _)
  show Calls Try.prog 5 #[.agg #[.slice ra rn rc, .slice ca cn cc, .slice na t.n.length nc, .slice ea en ec], .slice la l.length lc] w _
  go_enter Try.func5, Try.ntmps5
  go_upto_region 1 with (fail)
  rw [← HWA.out]
  go_wp2_with fail
  refine (great10_any t (ra, rn, rc) (ca, cn, cc) (na, t.n.length, nc) (ea, en, ec) B wa (HTB.out.same HC0.out) HV.out).mono ?_
  rintro e w1 ⟨rfl, hc⟩
  have HC1 := Lib.hid hc
  clear hc q0 q1 q2 q3
  cases hg : great10 t with
  | true =>
    clear hg
    go_wp2_with fail
    refine (lives_any w1).mono ?_
    rintro e w2 ⟨rfl, hc⟩
    have HC2 := Lib.hid (HC0.out.trans (HC1.out.trans hc))
    clear hc
    go_wp2
    go_ret
    exact ⟨rfl, HC2.out⟩
  | false =>
    have HFT := Lib.hid (greatT_fair (t := t) (by unfold great10 at hg; exact (Bool.or_eq_false_iff.1 hg).1)).1
    have HN40 : Hid (t.n.length ≤ 40) := Lib.hid (by
      unfold great10 at hg
      have := (Bool.or_eq_false_iff.1 hg).2
      simpa using this)
    clear hg
    by_cases hl30 : 30 < l.length
    · have hb : decide ((30 : Int) < (l.length : Int)) = true := by simp; omega
      go_wp2_with fail
      refine (lives_any w1).mono ?_
      rintro e w2 ⟨rfl, hc⟩
      have HC2 := Lib.hid (HC0.out.trans (HC1.out.trans hc))
      clear hc
      go_wp2
      go_ret
      exact ⟨rfl, HC2.out⟩
    · have hb : decide ((30 : Int) < (l.length : Int)) = false := by simp; omega
      obtain ⟨q0, q1, q2, q3⟩ := HBX.out w1 HC1.out
      go_wp2_with fail
      refine (least_any t (ra, rn, rc) (ca, cn, cc) (na, t.n.length, nc) (ea, en, ec) B w1 (HTB.out.same (HC0.out.trans HC1.out)) HFT.out).mono ?_
      intro e w2 hp
      clear q0 q1 q2 q3 hb
      unfold LeastOwn at hp
      cases hm : mayT t with
      | false =>
        rw [if_neg (by rw [hm]; decide)] at hp
        obtain ⟨he, hc⟩ := hp
        have he : e = .returned (.tuple #[.agg #[.slice none 0 0, .slice none 0 0, .slice none 0 0, .slice none 0 0], .int .i64 1]) := he
        subst he
        obtain ⟨w3, hw3⟩ : ∃ X, X = w2.alloc (.cells #[.slice none 0 0, .slice none 0 0, .slice none 0 0, .slice none 0 0] 26) := ⟨_, rfl⟩
        have HC23 : Hid (Chg (fun _ => False) w2 w3) := Lib.hid (by rw [hw3]; exact (Chg.refl _ _).alloc _)
        have HC3 := Lib.hid (HC1.out.trans (hc.trans HC23.out))
        have HB3 : Hid (TabAt w3 w2.heap.size (none, 0, 0) (none, 0, 0) (none, 0, 0) (none, 0, 0)) := Lib.hid (by rw [hw3]; exact tabBox w2 (none, 0, 0) (none, 0, 0) (none, 0, 0) (none, 0, 0) 26)
        have HW3 := Lib.hid hw3
        have HMT := Lib.hid hm
        clear hc hw3 hm
        go_upto_region 4 with (fail)
        rw [← HW3.out]
        obtain ⟨q0, q1, q2, q3⟩ := HBX.out w3 HC3.out
        go_wp2_with fail
        refine (may_any t (ra, rn, rc) (ca, cn, cc) (na, t.n.length, nc) (ea, en, ec) B w3 (HTB.out.same (HC0.out.trans HC3.out)) HFT.out).mono ?_
        rintro e w4 ⟨rfl, hc⟩
        rw [HMT.out]
        have HC4 := Lib.hid (HC3.out.trans hc)
        have hbx := HB3.out.chg hc (fun h => h)
        obtain ⟨x0, x1, x2, x3⟩ := hbx
        clear hc q0 q1 q2 q3
        go_wp2_with fail
        refine (lives_any w4).mono ?_
        rintro e w5 ⟨rfl, hc⟩
        have HC5 := Lib.hid (HC0.out.trans (HC4.out.trans hc))
        clear hc x0 x1 x2 x3
        go_wp2
        go_ret
        exact ⟨rfl, HC5.out⟩
      | true =>
        rw [if_pos hm] at hp
        obtain ⟨⟨r1a, r1n, r1c⟩, ⟨c1a, c1n, c1c⟩, ⟨n1a, n1n, n1c⟩, ⟨e1a, e1n, e1c⟩, τ, he, ho, hc⟩ := hp
        have he : e = .returned (.tuple #[.agg #[.slice r1a r1n r1c, .slice c1a c1n c1c, .slice n1a n1n n1c, .slice e1a e1n e1c], .int .i64 0]) := he
        subst he
        have HMT := Lib.hid (mayT_iff.1 hm)
        have htm := ho.tab
        obtain ⟨rfl, hn1'⟩ := htm.n.len
        have HTM := Lib.hid htm
        obtain ⟨w3, hw3⟩ : ∃ X, X = w2.alloc (.cells #[.slice r1a r1n r1c, .slice c1a c1n c1c, .slice n1a (leastT t).n.length n1c, .slice e1a e1n e1c] 26) := ⟨_, rfl⟩
        have HC23 : Hid (Chg (fun _ => False) w2 w3) := Lib.hid (by rw [hw3]; exact (Chg.refl _ _).alloc _)
        have HC3 := Lib.hid (HC1.out.trans (hc.trans HC23.out))
        have HB3 : Hid (∀ wx, Chg (fun _ => False) w3 wx → wx.cell? ⟨w2.heap.size, 0, none⟩ = some (.slice r1a r1n r1c) ∧ wx.cell? ⟨w2.heap.size, 1, none⟩ = some (.slice c1a c1n c1c) ∧ wx.cell? ⟨w2.heap.size, 2, none⟩ = some (.slice n1a (leastT t).n.length n1c) ∧ wx.cell? ⟨w2.heap.size, 3, none⟩ = some (.slice e1a e1n e1c)) := Lib.hid (fun wx hx => by
          have h1 : TabAt w3 w2.heap.size (r1a, r1n, r1c) (c1a, c1n, c1c) (n1a, (leastT t).n.length, n1c) (e1a, e1n, e1c) := by rw [hw3]; exact tabBox w2 (r1a, r1n, r1c) (c1a, c1n, c1c) (n1a, (leastT t).n.length, n1c) (e1a, e1n, e1c) 26
          exact h1.chg hx (fun h => h))
        have HW3 := Lib.hid hw3
        have HLM := Lib.hid (least_may HMT.out)
        have HLF := Lib.hid (least_fair HMT.out HFT.out)
        have HLL : Hid ((leastT t).n.length ≤ t.n.length) := Lib.hid (by rw [least_nlen]; exact (order_ok HMT.out).1.len_le)
        have HAP : Hid (∀ i j, j < (leastT t).n.length → i < j → eqB (leastT t) i j = false) := Lib.hid (fun i j h1 h2 => least_apart HMT.out h1 h2)
        have HLV : Hid (∀ j, j < (leastT t).n.length → 0 < j → eqB (leastT t) j (leastT t).n.length = false) := Lib.hid (fun j h1 h2 => least_live HMT.out h1 h2)
        have HDO : Hid (doesN (leastT t) 0 l = doesN t 0 l) := Lib.hid (by rw [least_same HMT.out])
        have HAG : Hid (leastT (leastT t) = leastT t) := Lib.hid (least_again HMT.out)
        have HM1 : Hid (mayT (leastT t) = true) := Lib.hid (mayT_iff.2 HLM.out)
        have HAL : Hid (alikeB (leastT t) t = true) := Lib.hid (alikeB_iff.2 ⟨HLM.out, HMT.out, HAG.out⟩)
        obtain ⟨u, hu⟩ : ∃ u, leastT t = u := ⟨_, rfl⟩
        rw [hu] at HTM HB3 HW3 HLM HLF HLL HAP HLV HDO HAG HM1 HAL ⊢
        clear hc hw3 hm htm ho hu hn1'
        go_upto_region 4 with (fail)
        rw [← HW3.out]
        obtain ⟨d, hd⟩ : ∃ d, doesN t 0 l = d := ⟨_, rfl⟩
        have HD := Lib.hid hd
        clear hd
        go_upto_region 6 with (fail)
        have hbn : decide (t.n.length < u.n.length) = false := by have := HLL.out; simp; omega
        have hbn2 : ¬ t.n.length < u.n.length := by have := HLL.out; omega
        have hbd : (d != d) = false := by simp
        refine wp_region_same (fun w' => Chg (fun _ => False) w3 w') (by kernel_rfl) (by kernel_rfl) ?_ ?_
        · exact (Chg.refl _ _).drew
        (refine wpC_read rfl (fun _ _ _ h => h) (fun K hK => ?_); apply Exists.intro; refine ⟨fun _ w' _ hC => ?_, ?_⟩; ((obtain ⟨x0, x1, x2, x3⟩ := HB3.out w' hC); go_simp; try with_reducible rfl); (try go_simp); refine hK _ ?_; clear hK K)
        refine wpC_call rfl (Value.bool true )  18  ( #[.agg #[.slice r1a r1n r1c, .slice c1a c1n c1c, .slice n1a u.n.length n1c, .slice e1a e1n e1c]]) (fun w' => by go_simp) (fun _ w' _ hC => ?_) (fun K hK => ?_)
        · refine (may_any u (r1a, r1n, r1c) (c1a, c1n, c1c) (n1a, u.n.length, n1c) (e1a, e1n, e1c) w1.heap.size w' (HTM.out.same (HC23.out.trans hC)) HLF.out).mono ?_
          rintro e w5 ⟨rfl, hc⟩
          exact ⟨by rw [HM1.out], hC.trans hc⟩
        ((try go_simp); refine hK _ ?_; clear hK K)
        (refine wpC_read rfl (fun _ _ _ h => h) (fun K hK => ?_); apply Exists.intro; refine ⟨fun _ w' _ hC => ?_, ?_⟩; ((skip); go_simp; try with_reducible rfl); (try go_simp); refine hK _ ?_; clear hK K); (refine wpC_read rfl (fun _ _ _ h => h) (fun K hK => ?_); apply Exists.intro; refine ⟨fun _ w' _ hC => ?_, ?_⟩; ((skip); go_simp; try with_reducible rfl); (try go_simp); refine hK _ ?_; clear hK K); (refine wpC_read rfl (fun _ _ _ h => h) (fun K hK => ?_); apply Exists.intro; refine ⟨fun _ w' _ hC => ?_, ?_⟩; ((skip); go_simp; try with_reducible rfl); (try go_simp); refine hK _ ?_; clear hK K); (refine wpC_read rfl (fun _ _ _ h => h) (fun K hK => ?_); apply Exists.intro; refine ⟨fun _ w' _ hC => ?_, ?_⟩; ((obtain ⟨x0, x1, x2, x3⟩ := HB3.out w' hC; obtain ⟨q0, q1, q2, q3⟩ := HBX.out w' (HC3.out.trans hC)); go_simp; try with_reducible rfl); (try go_simp); refine hK _ ?_; clear hK K); (refine wpC_read rfl (fun _ _ _ h => h) (fun K hK => ?_); apply Exists.intro; refine ⟨fun _ w' _ hC => ?_, ?_⟩; ((skip); go_simp; try with_reducible rfl); (try go_simp); refine hK _ ?_; clear hK K); (refine wpC_read rfl (fun _ _ _ h => h) (fun K hK => ?_); apply Exists.intro; refine ⟨fun _ w' _ hC => ?_, ?_⟩; ((skip); go_simp; try with_reducible rfl); (try go_simp); refine hK _ ?_; clear hK K); (refine wpC_read rfl (fun _ _ _ h => h) (fun K hK => ?_); apply Exists.intro; refine ⟨fun _ w' _ hC => ?_, ?_⟩; ((obtain ⟨x0, x1, x2, x3⟩ := HB3.out w' hC; obtain ⟨q0, q1, q2, q3⟩ := HBX.out w' (HC3.out.trans hC)); go_simp; try with_reducible rfl); (try go_simp); refine hK _ ?_; clear hK K); (refine wpC_read rfl (fun _ _ _ h => h) (fun K hK => ?_); apply Exists.intro; refine ⟨fun _ w' _ hC => ?_, ?_⟩; ((skip); go_simp; try with_reducible rfl); (try go_simp); refine hK _ ?_; clear hK K); (refine wpC_read rfl (fun _ _ _ h => h) (fun K hK => ?_); apply Exists.intro; refine ⟨fun _ w' _ hC => ?_, ?_⟩; ((skip); go_simp; try with_reducible rfl); (try go_simp); refine hK _ ?_; clear hK K); (refine wpC_read rfl (fun _ _ _ h => h) (fun K hK => ?_); apply Exists.intro; refine ⟨fun _ w' _ hC => ?_, ?_⟩; ((skip); go_simp; try with_reducible rfl); (try go_simp); refine hK _ ?_; clear hK K); (refine wpC_read rfl (fun _ _ _ h => h) (fun K hK => ?_); apply Exists.intro; refine ⟨fun _ w' _ hC => ?_, ?_⟩; ((skip); go_simp; try with_reducible rfl); (try go_simp); refine hK _ ?_; clear hK K); (refine wpC_read rfl (fun _ _ _ h => h) (fun K hK => ?_); apply Exists.intro; refine ⟨fun _ w' _ hC => ?_, ?_⟩; ((obtain ⟨x0, x1, x2, x3⟩ := HB3.out w' hC; obtain ⟨q0, q1, q2, q3⟩ := HBX.out w' (HC3.out.trans hC)); go_simp; try with_reducible rfl); (try go_simp); refine hK _ ?_; clear hK K); (refine wpC_read rfl (fun _ _ _ h => h) (fun K hK => ?_); apply Exists.intro; refine ⟨fun _ w' _ hC => ?_, ?_⟩; ((skip); go_simp; try with_reducible rfl); (try go_simp); refine hK _ ?_; clear hK K)
        refine wpC_call rfl (Value.int .i64 d )  19  ( #[.agg #[.slice r1a r1n r1c, .slice c1a c1n c1c, .slice n1a u.n.length n1c, .slice e1a e1n e1c], .slice la l.length lc]) (fun w' => by go_simp) (fun _ w' _ hC => ?_) (fun K hK => ?_)
        · refine (does_any u (r1a, r1n, r1c) (c1a, c1n, c1c) (n1a, u.n.length, n1c) (e1a, e1n, e1c) w1.heap.size B' la lc l w' (HTM.out.same (HC23.out.trans hC)) HLF.out HLM.out (HLI.out.same (HC0.out.trans (HC3.out.trans hC))) (by omega)).mono ?_
          rintro e w5 ⟨rfl, hc⟩
          exact ⟨by rw [HDO.out, HD.out], hC.trans hc⟩
        ((try go_simp); refine hK _ ?_; clear hK K)
        (refine wpC_read rfl (fun _ _ _ h => h) (fun K hK => ?_); apply Exists.intro; refine ⟨fun _ w' _ hC => ?_, ?_⟩; ((obtain ⟨x0, x1, x2, x3⟩ := HB3.out w' hC; obtain ⟨q0, q1, q2, q3⟩ := HBX.out w' (HC3.out.trans hC)); go_simp; try with_reducible rfl); (try go_simp); refine hK _ ?_; clear hK K); (refine wpC_read rfl (fun _ _ _ h => h) (fun K hK => ?_); apply Exists.intro; refine ⟨fun _ w' _ hC => ?_, ?_⟩; ((skip); go_simp; try with_reducible rfl); (try go_simp); refine hK _ ?_; clear hK K)
        refine wpC_call rfl (Value.int .i64 d )  19  ( #[.agg #[.slice ra rn rc, .slice ca cn cc, .slice na t.n.length nc, .slice ea en ec], .slice la l.length lc]) (fun w' => by go_simp) (fun _ w' _ hC => ?_) (fun K hK => ?_)
        · refine (does_any t (ra, rn, rc) (ca, cn, cc) (na, t.n.length, nc) (ea, en, ec) B B' la lc l w' (HTB.out.same (HC0.out.trans (HC3.out.trans hC))) HFT.out HMT.out (HLI.out.same (HC0.out.trans (HC3.out.trans hC))) (by omega)).mono ?_
          rintro e w5 ⟨rfl, hc⟩
          exact ⟨by rw [HD.out], hC.trans hc⟩
        ((try go_simp); refine hK _ ?_; clear hK K)
        (refine wpC_read rfl (fun _ _ _ h => h) (fun K hK => ?_); apply Exists.intro; refine ⟨fun _ w' _ hC => ?_, ?_⟩; ((obtain ⟨x0, x1, x2, x3⟩ := HB3.out w' hC; obtain ⟨q0, q1, q2, q3⟩ := HBX.out w' (HC3.out.trans hC)); go_simp; try with_reducible rfl); (try go_simp); refine hK _ ?_; clear hK K); (refine wpC_read rfl (fun _ _ _ h => h) (fun K hK => ?_); apply Exists.intro; refine ⟨fun _ w' _ hC => ?_, ?_⟩; ((skip); go_simp; try with_reducible rfl); (try go_simp); refine hK _ ?_; clear hK K); (refine wpC_read rfl (fun _ _ _ h => h) (fun K hK => ?_); apply Exists.intro; refine ⟨fun _ w' _ hC => ?_, ?_⟩; ((skip); go_simp; try with_reducible rfl); (try go_simp); refine hK _ ?_; clear hK K); (refine wpC_read rfl (fun _ _ _ h => h) (fun K hK => ?_); apply Exists.intro; refine ⟨fun _ w' _ hC => ?_, ?_⟩; ((obtain ⟨x0, x1, x2, x3⟩ := HB3.out w' hC; obtain ⟨q0, q1, q2, q3⟩ := HBX.out w' (HC3.out.trans hC)); go_simp; try with_reducible rfl); (try go_simp); refine hK _ ?_; clear hK K); (refine wpC_read rfl (fun _ _ _ h => h) (fun K hK => ?_); apply Exists.intro; refine ⟨fun _ w' _ hC => ?_, ?_⟩; ((obtain ⟨x0, x1, x2, x3⟩ := HB3.out w' hC; obtain ⟨q0, q1, q2, q3⟩ := HBX.out w' (HC3.out.trans hC)); go_simp; try with_reducible rfl); (try go_simp); refine hK _ ?_; clear hK K)
        refine wpC_call rfl (Value.bool true )  17  ( #[.agg #[.slice r1a r1n r1c, .slice c1a c1n c1c, .slice n1a u.n.length n1c, .slice e1a e1n e1c], .agg #[.slice ra rn rc, .slice ca cn cc, .slice na t.n.length nc, .slice ea en ec]]) (fun w' => by go_simp) (fun _ w' _ hC => ?_) (fun K hK => ?_)
        · refine (alike_any u t (r1a, r1n, r1c) (c1a, c1n, c1c) (n1a, u.n.length, n1c) (e1a, e1n, e1c) (ra, rn, rc) (ca, cn, cc) (na, t.n.length, nc) (ea, en, ec) w1.heap.size B w' (HTM.out.same (HC23.out.trans hC)) (HTB.out.same (HC0.out.trans (HC3.out.trans hC))) HLF.out HFT.out).mono ?_
          rintro e w5 ⟨rfl, hc⟩
          exact ⟨by rw [HAL.out], hC.trans hc⟩
        ((try go_simp); refine hK _ ?_; clear hK K)
        (refine wpC_read rfl (fun _ _ _ h => h) (fun K hK => ?_); apply Exists.intro; refine ⟨fun _ w' _ hC => ?_, ?_⟩; ((skip); go_simp; try with_reducible rfl); (try go_simp); refine hK _ ?_; clear hK K); (refine wpC_read rfl (fun _ _ _ h => h) (fun K hK => ?_); apply Exists.intro; refine ⟨fun _ w' _ hC => ?_, ?_⟩; ((skip); go_simp; try with_reducible rfl); (try go_simp); refine hK _ ?_; clear hK K)
        refine wpC_nil ?_
        intro w4 hC4
        have HC4 := Lib.hid hC4
        clear hC4 hbn hbn2 hbd
        obtain ⟨x0, x1, x2, x3⟩ := HB3.out w4 HC4.out
        go_wp2_with fail
        refine (least_any u (r1a, r1n, r1c) (c1a, c1n, c1c) (n1a, u.n.length, n1c) (e1a, e1n, e1c) w1.heap.size w4 (HTM.out.same (HC23.out.trans HC4.out)) HLF.out).mono ?_
        intro e w5 hp
        unfold LeastOwn at hp
        rw [if_pos HM1.out, HAG.out] at hp
        clear x0 x1 x2 x3
        obtain ⟨⟨r2a, r2n, r2c⟩, ⟨c2a, c2n, c2c⟩, ⟨n2a, n2n, n2c⟩, ⟨e2a, e2n, e2c⟩, τ2, he, ho, hc⟩ := hp
        have he : e = .returned (.tuple #[.agg #[.slice r2a r2n r2c, .slice c2a c2n c2c, .slice n2a n2n n2c, .slice e2a e2n e2c], .int .i64 0]) := he
        subst he
        have HTA := Lib.hid ho.tab
        obtain ⟨w6, hw6⟩ : ∃ X, X = w5.alloc (.cells #[.slice r2a r2n r2c, .slice c2a c2n c2c, .slice n2a n2n n2c, .slice e2a e2n e2c] 26) := ⟨_, rfl⟩
        have HC56 : Hid (Chg (fun _ => False) w5 w6) := Lib.hid (by rw [hw6]; exact (Chg.refl _ _).alloc _)
        have HC6 := Lib.hid (HC4.out.trans (hc.trans HC56.out))
        have HB6 : Hid (TabAt w6 w5.heap.size (r2a, r2n, r2c) (c2a, c2n, c2c) (n2a, n2n, n2c) (e2a, e2n, e2c)) := Lib.hid (by rw [hw6]; exact tabBox w5 (r2a, r2n, r2c) (c2a, c2n, c2c) (n2a, n2n, n2c) (e2a, e2n, e2c) 26)
        have HW6 := Lib.hid hw6
        clear hc hw6 ho
        go_upto_region 9 with (fail)
        rw [← HW6.out]
        refine wp_region_same (fun w' => Chg (fun _ => False) w6 w') (by kernel_rfl) (by kernel_rfl) ?_ ?_
        · exact (Chg.refl _ _).drew
        (refine wpC_read rfl (fun _ _ _ h => h) (fun K hK => ?_); apply Exists.intro; refine ⟨fun _ w' _ hC => ?_, ?_⟩; ((skip); go_simp; try with_reducible rfl); (try go_simp); refine hK _ ?_; clear hK K); (refine wpC_read rfl (fun _ _ _ h => h) (fun K hK => ?_); apply Exists.intro; refine ⟨fun _ w' _ hC => ?_, ?_⟩; ((skip); go_simp; try with_reducible rfl); (try go_simp); refine hK _ ?_; clear hK K); (refine wpC_read rfl (fun _ _ _ h => h) (fun K hK => ?_); apply Exists.intro; refine ⟨fun _ w' _ hC => ?_, ?_⟩; ((skip); go_simp; try with_reducible rfl); (try go_simp); refine hK _ ?_; clear hK K); (refine wpC_read rfl (fun _ _ _ h => h) (fun K hK => ?_); apply Exists.intro; refine ⟨fun _ w' _ hC => ?_, ?_⟩; ((obtain ⟨x0, x1, x2, x3⟩ := HB3.out w' (HC6.out.trans hC); obtain ⟨y0, y1, y2, y3⟩ := HB6.out.chg hC (fun h => h)); go_simp; try with_reducible rfl); (try go_simp); refine hK _ ?_; clear hK K); (refine wpC_read rfl (fun _ _ _ h => h) (fun K hK => ?_); apply Exists.intro; refine ⟨fun _ w' _ hC => ?_, ?_⟩; ((obtain ⟨x0, x1, x2, x3⟩ := HB3.out w' (HC6.out.trans hC); obtain ⟨y0, y1, y2, y3⟩ := HB6.out.chg hC (fun h => h)); go_simp; try with_reducible rfl); (try go_simp); refine hK _ ?_; clear hK K)
        refine wpC_call rfl (tabV (r1a, r1n, r1c) (c1a, c1n, c1c) (n1a, u.n.length, n1c) (e1a, e1n, e1c) )  12  ( #[.agg #[.slice r1a r1n r1c, .slice c1a c1n c1c, .slice n1a u.n.length n1c, .slice e1a e1n e1c]]) (fun w' => by go_simp) (fun _ w' _ hC => ?_) (fun K hK => ?_)
        · refine (other_any (r1a, r1n, r1c) (c1a, c1n, c1c) (n1a, u.n.length, n1c) (e1a, e1n, e1c) w').mono ?_
          rintro e w7 ⟨rfl, hc⟩
          exact ⟨rfl, hC.trans hc⟩
        ((try go_simp); refine hK _ ?_; clear hK K)
        refine wpC_call rfl (Value.bool true )  13  ( #[.agg #[.slice r2a r2n r2c, .slice c2a c2n c2c, .slice n2a n2n n2c, .slice e2a e2n e2c], tabV (r1a, r1n, r1c) (c1a, c1n, c1c) (n1a, u.n.length, n1c) (e1a, e1n, e1c)]) (fun w' => by go_simp) (fun _ w' _ hC => ?_) (fun K hK => ?_)
        · refine (same9_any u u (r2a, r2n, r2c) (c2a, c2n, c2c) (n2a, n2n, n2c) (e2a, e2n, e2c) (r1a, r1n, r1c) (c1a, c1n, c1c) (n1a, u.n.length, n1c) (e1a, e1n, e1c) w4.heap.size w1.heap.size w' (HTA.out.same (HC56.out.trans hC)) (HTM.out.same (HC23.out.trans (HC6.out.trans hC))) HLF.out).mono ?_
          rintro e w7 ⟨rfl, hc⟩
          exact ⟨by rw [show sameB u u = true from sameB_iff.2 rfl], hC.trans hc⟩
        ((try go_simp); refine hK _ ?_; clear hK K)
        (refine wpC_read rfl (fun _ _ _ h => h) (fun K hK => ?_); apply Exists.intro; refine ⟨fun _ w' _ hC => ?_, ?_⟩; ((skip); go_simp; try with_reducible rfl); (try go_simp); refine hK _ ?_; clear hK K); (refine wpC_read rfl (fun _ _ _ h => h) (fun K hK => ?_); apply Exists.intro; refine ⟨fun _ w' _ hC => ?_, ?_⟩; ((skip); go_simp; try with_reducible rfl); (try go_simp); refine hK _ ?_; clear hK K)
        refine wpC_nil ?_
        intro w7 hC7
        have HC7 := Lib.hid (HC6.out.trans hC7)
        have HCB := Lib.hid (HC0.out.trans (HC3.out.trans HC7.out))
        have HTU := Lib.hid (HTM.out.same (HC23.out.trans HC7.out))
        have HUX : Hid (∀ wx, Chg (fun k => w7.heap.size ≤ k) w7 wx → wx.cell? ⟨w2.heap.size, 0, none⟩ = some (.slice r1a r1n r1c) ∧ wx.cell? ⟨w2.heap.size, 1, none⟩ = some (.slice c1a c1n c1c) ∧ wx.cell? ⟨w2.heap.size, 2, none⟩ = some (.slice n1a u.n.length n1c) ∧ wx.cell? ⟨w2.heap.size, 3, none⟩ = some (.slice e1a e1n e1c)) := Lib.hid (fun wx hx => HB3.out wx (HC7.out.trans hx.fresh))
        obtain ⟨q0, q1, q2, q3⟩ := HUX.out w7 (Chg.refl _ _)
        have hu40 : u.n.length ≤ 40 := Nat.le_trans HLL.out HN40.out
        clear hC7 HC7 HC6 HB6 HW6 HTA HC56 HC4 HD HDO HAG HM1 HAL HC3 HC23 HB3 HW3 HTM HLL HMT HN40 HFT HC1 HWA HBX HC0
        have HU40 := Lib.hid hu40
        go_wp2_with (at_make; refine boolsE.wpList_make rfl _ _ _ rfl rfl _ _ _ _ (u.n.length + 1) (u.n.length + 1) rfl rfl rfl (by omega) (by omega) (by omega) ?_; intro w8 HR8 HC8)
        have HMAT : Hid (MatAt w8 w7.heap.size (.slice (some ⟨w7.heap.size, 0, none⟩) 0 (u.n.length + 1)) (fun _ _ => false) 0 (u.n.length + 1)) := Lib.hid (MatAt.room HR8.out (Nat.le_refl _) (by omega))
        have HC := Lib.hid (HC8.out.any (S := fun k => w7.heap.size ≤ k))
        obtain ⟨g, hg⟩ : ∃ g, w7.heap.size = g := ⟨_, rfl⟩
        have HG := Lib.hid hg
        rw [hg] at HMAT ⊢
        clear q0 q1 q2 q3 HR8 HC8 hg
        go_loopw [11] (fun q wr => ∃ (i : Nat) (M : Nat → Nat → Bool), i ≤ u.n.length + 1 ∧ q = .int .i64 i ∧ MatAt wr g (.slice (some ⟨g, 0, none⟩) i (u.n.length + 1)) M i (u.n.length + 1) ∧ (∀ a b, a < i → b ≤ u.n.length → M a b = m0 u a b) ∧ Chg (fun k => w7.heap.size ≤ k) w7 wr) (fun q _ => u.n.length + 1 - (intOf q).toNat)
        case atStart => exact ⟨0, _, by omega, rfl, HMAT.out, fun a b h => absurd h (Nat.not_lt_zero _), HC.out⟩
        case round =>
          clear HMAT HC
          obtain ⟨i, M, hi, rfl, hmat, hMv, hc⟩ := hrel
          have HMAT := Lib.hid hmat
          have HMV := Lib.hid hMv
          have HC := Lib.hid hc
          clear hmat hMv hc
          by_cases hil : i < u.n.length + 1
          · have b1 : decide ((i : Int) < (u.n.length : Int) + 1) = true := by simp; omega
            have hszr := HC.out.size
            obtain ⟨so, hs1, hs2, hs3, hs4⟩ := HMAT.out.slot (by omega)
            have HSL := Lib.hid (show _ ∧ _ from ⟨hs1, hs2⟩)
            have hi1 : (i : Int) < (u.n.length : Int) + 1 := by omega
            clear hs1 hs2
            go_wp2_with (at_make; refine boolE.wpList_make rfl _ _ _ rfl rfl _ _ _ _ (u.n.length + 1) (u.n.length + 1) rfl rfl rfl (by omega) (by omega) (by omega) ?_; intro w1 HR1 HC1; have k1 := HC1.out.cellS HSL.out.1 (fun h => h); have k2 := (HC1.out.frozen (p := ⟨g, i, none⟩) hs4 (fun h => h)).trans HSL.out.2)
            have HFI := HMAT.out.fill (by omega) HC1.out (by have := HG.out; omega) (Nat.le_refl _) HR1.out
            have HMT := Lib.hid HFI.1
            have HCW := Lib.hid (HC.out.trans (HC1.out.any.trans (HFI.2.mono (T := fun k => w7.heap.size ≤ k) (fun k _ e => by have := HG.out; omega))))
            clear HFI HR1 HC1 k1 k2 HSL HMAT HC hs3 hs4 hszr
            go_loopw [12] (fun q wy => ∃ (j : Nat) (M' : Nat → Nat → Bool), j ≤ u.n.length + 1 ∧ q = .int .i64 j ∧ MatAt wy g (.slice (some ⟨g, 0, none⟩) (i + 1) (u.n.length + 1)) M' (i + 1) (u.n.length + 1) ∧ (∀ a b, a < i → b ≤ u.n.length → M' a b = m0 u a b) ∧ (∀ b, b < j → M' i b = m0 u i b) ∧ Chg (fun k => w7.heap.size ≤ k) w7 wy) (fun q _ => u.n.length + 1 - (intOf q).toNat)
            case atStart => exact ⟨0, _, by omega, rfl, HMT.out, fun a b ha hb => by rw [if_neg (by omega)]; exact HMV.out a b ha hb, fun b hb => absurd hb (Nat.not_lt_zero _), HCW.out⟩
            case round =>
              clear HMT HCW
              obtain ⟨j, M', hj, rfl, hmat, hM1, hM2, hc⟩ := hrel
              have HMAT := Lib.hid hmat
              have HM1 := Lib.hid hM1
              have HM2 := Lib.hid hM2
              have HCY := Lib.hid hc
              clear hmat hM1 hM2 hc
              by_cases hjl : j < u.n.length + 1
              · have b2 : decide ((j : Int) < (u.n.length : Int) + 1) = true := by simp; omega
                have i1 : (i : Int) < (u.n.length : Int) + 1 := by omega
                have j1 : (j : Int) < (u.n.length : Int) + 1 := by omega
                obtain ⟨g', gr, hgg, hcell, hgB, hglt, hgz, hgc⟩ := HMAT.out.get (i := i) (by omega)
                obtain rfl : g = g' := by injection hgg with e; injection e
                clear hgg
                have HCELL := Lib.hid hcell
                have HGC := Lib.hid (hgc j (by omega))
                have HGZ := Lib.hid hgz
                clear hcell hgc hgz
                go_upto_region 20 with (fail)
                obtain ⟨wd, hwd⟩ : ∃ x, wr.drew = x := ⟨_, rfl⟩
                have HDD : Hid (Chg (fun _ => False) wr wd) := Lib.hid (by rw [← hwd]; exact (Chg.refl _ _).drew)
                have HCD := Lib.hid (HCY.out.trans HDD.out.any)
                refine wp_region_late (fun x => Chg (fun _ => False) wd x) (fun i => decide (13 ≤ i)) (by kernel_rfl) ?_
                show wpAnyL _ _ _ _ _ _ 14 (Array.replicate 14 false) _ wr.drew
                rw [hwd]
                clear hwd
                have HSS : Hid (Chg (fun _ => False) wd wd) := Lib.hid (Chg.refl _ _)
                (refine late_read (i := 0) rfl (by kernel_rfl) (fun _ _ _ _ h => h) rfl HSS.out (fun K hK => ?_); apply Exists.intro; refine ⟨fun w' hC => ?_, ?_⟩; ((skip); go_simp; try with_reducible rfl); (try go_simp); refine hK _ ?_; clear hK K)
                (refine late_read (i := 1) rfl (by kernel_rfl) (fun _ _ _ _ h => h) rfl HSS.out (fun K hK => ?_); apply Exists.intro; refine ⟨fun w' hC => ?_, ?_⟩; ((skip); go_simp; try with_reducible rfl); (try go_simp); refine hK _ ?_; clear hK K)
                (refine late_read (i := 2) rfl (by kernel_rfl) (fun _ _ _ _ h => h) rfl HSS.out (fun K hK => ?_); apply Exists.intro; refine ⟨fun w' hC => ?_, ?_⟩; ((skip); go_simp; try with_reducible rfl); (try go_simp); refine hK _ ?_; clear hK K)
                (refine late_read (i := 3) rfl (by kernel_rfl) (fun _ _ _ _ h => h) rfl HSS.out (fun K hK => ?_); apply Exists.intro; refine ⟨fun w' hC => ?_, ?_⟩; ((have q := (HDD.out.trans hC).cellS HCELL.out (fun h => h)); go_simp; try with_reducible rfl); (try go_simp); refine hK _ ?_; clear hK K)
                (refine late_read (i := 4) rfl (by kernel_rfl) (fun _ _ _ _ h => h) rfl HSS.out (fun K hK => ?_); apply Exists.intro; refine ⟨fun w' hC => ?_, ?_⟩; ((skip); go_simp; try with_reducible rfl); (try go_simp); refine hK _ ?_; clear hK K)
                (refine late_read (i := 5) rfl (by kernel_rfl) (fun _ _ _ _ h => h) rfl HSS.out (fun K hK => ?_); apply Exists.intro; refine ⟨fun w' hC => ?_, ?_⟩; ((obtain ⟨q0, q1, q2, q3⟩ := HUX.out w' (HCD.out.trans hC.any)); go_simp; try with_reducible rfl); (try go_simp); refine hK _ ?_; clear hK K)
                (refine late_read (i := 6) rfl (by kernel_rfl) (fun _ _ _ _ h => h) rfl HSS.out (fun K hK => ?_); apply Exists.intro; refine ⟨fun w' hC => ?_, ?_⟩; ((skip); go_simp; try with_reducible rfl); (try go_simp); refine hK _ ?_; clear hK K)
                (refine late_read (i := 8) rfl (by kernel_rfl) (fun _ _ _ _ h => h) rfl HSS.out (fun K hK => ?_); apply Exists.intro; refine ⟨fun w' hC => ?_, ?_⟩; ((obtain ⟨q0, q1, q2, q3⟩ := HUX.out w' (HCD.out.trans hC.any)); go_simp; try with_reducible rfl); (try go_simp); refine hK _ ?_; clear hK K)
                (refine late_read (i := 9) rfl (by kernel_rfl) (fun _ _ _ _ h => h) rfl HSS.out (fun K hK => ?_); apply Exists.intro; refine ⟨fun w' hC => ?_, ?_⟩; ((skip); go_simp; try with_reducible rfl); (try go_simp); refine hK _ ?_; clear hK K)
                refine late_call (i := 7) (by kernel_rfl) rfl rfl 20 #[.agg #[.slice r1a r1n r1c, .slice c1a c1n c1c, .slice n1a u.n.length n1c, .slice e1a e1n e1c], .int .i64 i] (fun v w'' => v = .int .i64 (endN u i) ∧ Chg (fun _ => False) wd w'') (by go_simp) ?_ ?_
                · refine (lawEnd_any u (r1a, r1n, r1c) (c1a, c1n, c1c) (n1a, u.n.length, n1c) (e1a, e1n, e1c) _ i wd (HTU.out.same HCD.out.fresh) HLM.out (by omega)).mono ?_
                  rintro e wy ⟨rfl, hc⟩
                  exact ⟨_, rfl, fun _ => hc, rfl, hc⟩
                rintro v w5 - ⟨rfl, hc⟩ K hK
                have HX5 := Lib.hid hc
                clear hc
                (try go_simp)
                refine hK _ ?_
                clear hK K
                refine late_call (i := 10) (by kernel_rfl) rfl rfl 20 #[.agg #[.slice r1a r1n r1c, .slice c1a c1n c1c, .slice n1a u.n.length n1c, .slice e1a e1n e1c], .int .i64 j] (fun v w'' => v = .int .i64 (endN u j) ∧ Chg (fun _ => False) w5 w'') (by go_simp) ?_ ?_
                · refine (lawEnd_any u (r1a, r1n, r1c) (c1a, c1n, c1c) (n1a, u.n.length, n1c) (e1a, e1n, e1c) _ j w5 (HTU.out.same (HCD.out.trans HX5.out.any).fresh) HLM.out (by omega)).mono ?_
                  rintro e wy ⟨rfl, hc⟩
                  exact ⟨_, rfl, fun _ => HX5.out.trans hc, rfl, hc⟩
                rintro v w6 - ⟨rfl, hc⟩ K hK
                have HX6 := Lib.hid (HX5.out.trans hc)
                clear hc HX5
                (try go_simp)
                refine hK _ ?_
                clear hK K
                have HSS := HX6
                (refine late_turn (i := 11) (by kernel_rfl) rfl rfl (fun K hK => ?_); apply Exists.intro; apply Exists.intro; refine ⟨?_, ?_, ?_⟩; ((skip); go_simp; try first | with_reducible rfl | exact ⟨rfl, rfl⟩); (exact fun _ => HX6.out); (try go_simp); refine hK _ _ ?_; clear hK K)
                (refine late_read (i := 12) rfl (by kernel_rfl) (fun _ _ _ _ h => h) rfl HSS.out (fun K hK => ?_); apply Exists.intro; refine ⟨fun w' hC => ?_, ?_⟩; ((skip); go_simp; try with_reducible rfl); (try go_simp); refine hK _ ?_; clear hK K)
                have HD6 := Lib.hid (HDD.out.trans HX6.out)
                obtain ⟨hset, hsc, -⟩ := (HMAT.out.same HD6.out).set (i := i) (j := j) (by omega) (by omega) (m0 u i j) rfl (HD6.out.cellS HCELL.out (fun h => h))
                have k1 := HD6.out.cellS HGC.out (fun h => h)
                have k2 := (HD6.out.frozen (p := ⟨gr, j, none⟩) hglt (fun h => h)).trans (HGZ.out j)
                have hmm : (endN u i != endN u j) = m0 u i j := by unfold m0; by_cases h : endN u i = endN u j <;> simp [h]
                have HSET := Lib.hid hset
                have HSC := Lib.hid (HCY.out.trans (HD6.out.any.trans (hsc.mono (T := fun k => w7.heap.size ≤ k) (fun k _ e => by have := HG.out; omega))))
                clear hset hsc
                (refine late_store (i := 13) (by kernel_rfl) rfl rfl (fun K hK => ?_); apply Exists.intro; refine ⟨?_, (fun h => absurd h (by decide)), ?_⟩; ((skip); go_simp; try first | with_reducible rfl | exact ⟨rfl, rfl⟩); (try go_simp); refine hK _ _ ?_; clear hK K)
                refine late_done (by kernel_rfl) ?_ _
                clear k1 k2
                have HB1 : Hid (∀ a b, a < i → b ≤ u.n.length → setM M' i j (m0 u i j) a b = m0 u a b) := Lib.hid (fun a b ha hb => by unfold setM; rw [if_neg (by omega)]; exact HM1.out a b ha hb)
                have HB2 : Hid (∀ b, b < j + 1 → setM M' i j (m0 u i j) i b = m0 u i b) := Lib.hid (fun b hb => by
                  unfold setM
                  by_cases e : b = j
                  · rw [if_pos ⟨rfl, e⟩, e]
                  · rw [if_neg (fun h => e h.2)]; exact HM2.out b (by omega))
                go_wp2
                go_roundw
                case rel => exact ⟨j + 1, _, by omega, by go_num, HSET.out, HB1.out, HB2.out, HSC.out⟩
                case measure => simp [intOf]; omega
              · obtain rfl : j = u.n.length + 1 := by omega
                have b2 : decide (((u.n.length + 1 : Nat) : Int) < (u.n.length : Int) + 1) = false := by simp
                have HB1 : Hid (∀ a b, a < i + 1 → b ≤ u.n.length → M' a b = m0 u a b) := Lib.hid (fun a b ha hb => by
                  by_cases e : a = i
                  · subst e; exact HM2.out b (by omega)
                  · exact HM1.out a b (by omega) hb)
                go_wp2
                go_roundw
                case rel => exact ⟨i + 1, _, by omega, by go_num, HMAT.out, HB1.out, HCY.out⟩
                case measure => simp [intOf]; omega
          · obtain rfl : i = u.n.length + 1 := by omega
            have b1 : decide ((u.n.length : Int) + 1 < (u.n.length : Int) + 1) = false := by simp
            have ecast : ((u.n.length + 1 : Nat) : Int) = (u.n.length : Int) + 1 := rfl
            rw [ecast]
            clear ecast
            have HTM : Hid (ToldM u 0 M) := Lib.hid (ToldM.start (fun a b ha hb => HMV.out a b (by omega) hb))
            have hn0 := HLM.out.nl
            clear HMV
            obtain ⟨wp, hwp⟩ : ∃ x, x = wr := ⟨_, rfl⟩
            rw [← hwp] at HC HMAT ⊢
            clear hwp
            go_wp2
            go_loopw [13] (fun q wr => ∃ (r : Nat) (M : Nat → Nat → Bool), r ≤ u.n.length + 1 ∧ q = .int .i64 r ∧ MatAt wr g (.slice (some ⟨g, 0, none⟩) (u.n.length + 1) (u.n.length + 1)) M (u.n.length + 1) (u.n.length + 1) ∧ ToldM u r M ∧ Chg (fun k => w7.heap.size ≤ k) w7 wr) (fun q _ => u.n.length + 1 - (intOf q).toNat)
            case atStart => exact ⟨0, M, by omega, rfl, HMAT.out, HTM.out, HC.out⟩
            case round =>
              clear HMAT HTM HC
              obtain ⟨r, M, hr, rfl, hmat, htm, hc⟩ := hrel
              have HMAT := Lib.hid hmat
              have HTR := Lib.hid (ToldR.start htm).any
              have HTM := Lib.hid htm
              have HC := Lib.hid hc
              clear hmat htm hc
              by_cases hrl : r < u.n.length + 1
              · have b3 : decide ((r : Int) < (u.n.length : Int) + 1) = true := by simp; omega
                obtain ⟨wo1, rfl⟩ : ∃ wo : World, wo = wr := ⟨_, rfl⟩
                go_wp2
                go_loopw [14] (fun q wr => ∃ (i : Nat) (M : Nat → Nat → Bool), i ≤ u.n.length + 1 ∧ q = .int .i64 i ∧ MatAt wr g (.slice (some ⟨g, 0, none⟩) (u.n.length + 1) (u.n.length + 1)) M (u.n.length + 1) (u.n.length + 1) ∧ ToldR u r i 0 true M ∧ Chg (fun k => w7.heap.size ≤ k) w7 wr) (fun q _ => u.n.length + 1 - (intOf q).toNat)
                case atStart => exact ⟨0, M, by omega, rfl, HMAT.out, HTR.out, HC.out⟩
                case round =>
                  clear HMAT HTR HTM HC
                  obtain ⟨i, M, hi, rfl, hmat, htr, hc⟩ := hrel
                  have HMAT := Lib.hid hmat
                  have HTR := Lib.hid htr
                  have HC := Lib.hid hc
                  clear hmat htr hc
                  by_cases hil : i < u.n.length + 1
                  · have b4 : decide ((i : Int) < (u.n.length : Int) + 1) = true := by simp; omega
                    obtain ⟨wo2, rfl⟩ : ∃ wo : World, wo = wr := ⟨_, rfl⟩
                    go_wp2
                    go_loopw [15] (fun q wr => ∃ (j : Nat) (M : Nat → Nat → Bool), j ≤ u.n.length + 1 ∧ q = .int .i64 j ∧ MatAt wr g (.slice (some ⟨g, 0, none⟩) (u.n.length + 1) (u.n.length + 1)) M (u.n.length + 1) (u.n.length + 1) ∧ ToldR u r i j true M ∧ Chg (fun k => w7.heap.size ≤ k) w7 wr) (fun q _ => u.n.length + 1 - (intOf q).toNat)
                    case atStart => exact ⟨0, M, by omega, rfl, HMAT.out, HTR.out, HC.out⟩
                    case round =>
                      clear HMAT HTR HC
                      obtain ⟨j, M, hj, rfl, hmat, htr, hc⟩ := hrel
                      have HMAT := Lib.hid hmat
                      have HTR := Lib.hid htr
                      have HC := Lib.hid hc
                      clear hmat htr hc
                      by_cases hjl : j < u.n.length + 1
                      · have b5 : decide ((j : Int) < (u.n.length : Int) + 1) = true := by simp; omega
                        obtain ⟨wo3, rfl⟩ : ∃ wo : World, wo = wr := ⟨_, rfl⟩
                        go_wp2
                        go_loopw [16] (fun q wr => ∃ (c : Nat) (M : Nat → Nat → Bool), c ≤ colsN u ∧ q = .int .i64 c ∧ MatAt wr g (.slice (some ⟨g, 0, none⟩) (u.n.length + 1) (u.n.length + 1)) M (u.n.length + 1) (u.n.length + 1) ∧ ToldR u r i j true M ∧ (M i j = false → ∀ c', c' < c → M (goN u i c') (goN u j c') = false) ∧ Chg (fun k => w7.heap.size ≤ k) w7 wr) (fun q _ => colsN u - (intOf q).toNat)
                        case atStart => exact ⟨0, M, by omega, rfl, HMAT.out, HTR.out, fun _ c' h => absurd h (Nat.not_lt_zero _), HC.out⟩
                        case round =>
                          obtain ⟨c, M, hcl, rfl, hmat, htr, hcc, hc⟩ := hrel
                          have HMAT := Lib.hid hmat
                          have HTR := Lib.hid htr
                          have HCC := Lib.hid hcc
                          have HC := Lib.hid hc
                          clear hmat htr hcc hc
                          obtain ⟨q0, q1, q2, q3⟩ := HUX.out wr HC.out
                          obtain ⟨l0, gn, on, la0, lc0, hl0, hna, n0, hin, -, -⟩ := (HTU.out.same HC.out.fresh).n.getIn (k := 0) hn0
                          subst hna
                          have HLL : Hid (l0.length = colsN u) := Lib.hid (may_row HLM.out hl0).1
                          rw [Nat.add_zero] at n0
                          have hl0b := HLF.out.l l0 (List.mem_of_getElem? hl0)
                          have i1 : (i : Int) < (u.n.length : Int) + 1 := by omega
                          have j1 : (j : Int) < (u.n.length : Int) + 1 := by omega
                          obtain ⟨g', gr, hgg, hcell, hgB, hglt, hgz, hgc⟩ := HMAT.out.get (i := i) (by omega)
                          obtain rfl : g = g' := by injection hgg with e; injection e
                          have HCELL := Lib.hid hcell
                          have HGZ := Lib.hid (show _ ∧ _ from ⟨hgz, hgc⟩)
                          clear hl0 hin hgz hgc hgg hcell
                          by_cases hcl2 : c < colsN u
                          · have b6 : decide ((c : Int) < (l0.length : Int)) = true := by have := HLL.out; simp; omega
                            have b7 : c < l0.length := by have := HLL.out; omega
                            cases hmij : M i j with
                            | true =>
                              have HMIJ := Lib.hid hmij
                              clear hmij
                              go_upto_region 33 with (fail)
                              clear q0 q1 q2 q3 n0
                              obtain ⟨wd, hwd⟩ : ∃ x, wr.drew = x := ⟨_, rfl⟩
                              have HDD : Hid (Chg (fun _ => False) wr wd) := Lib.hid (by rw [← hwd]; exact (Chg.refl _ _).drew)
                              refine wp_region_late (fun x => Chg (fun _ => False) wd x) (fun i => decide (28 ≤ i)) (by kernel_rfl) ?_
                              show wpAnyL _ _ _ _ _ _ 29 (Array.replicate 29 false) _ wr.drew
                              rw [hwd]
                              clear hwd
                              have HSS : Hid (Chg (fun _ => False) wd wd) := Lib.hid (Chg.refl _ _)
                              (refine late_read (i := 0) rfl (by kernel_rfl) (fun _ _ _ _ h => h) rfl HSS.out (fun K hK => ?_); apply Exists.intro; refine ⟨fun w' hC => ?_, ?_⟩; ((skip); go_simp; try with_reducible rfl); (try go_simp); refine hK _ ?_; clear hK K)
                              (refine late_read (i := 1) rfl (by kernel_rfl) (fun _ _ _ _ h => h) rfl HSS.out (fun K hK => ?_); apply Exists.intro; refine ⟨fun w' hC => ?_, ?_⟩; ((skip); go_simp; try with_reducible rfl); (try go_simp); refine hK _ ?_; clear hK K)
                              (refine late_read (i := 2) rfl (by kernel_rfl) (fun _ _ _ _ h => h) rfl HSS.out (fun K hK => ?_); apply Exists.intro; refine ⟨fun w' hC => ?_, ?_⟩; ((skip); go_simp; try with_reducible rfl); (try go_simp); refine hK _ ?_; clear hK K)
                              (refine late_read (i := 3) rfl (by kernel_rfl) (fun _ _ _ _ h => h) rfl HSS.out (fun K hK => ?_); apply Exists.intro; refine ⟨fun w' hC => ?_, ?_⟩; ((have q := (HDD.out.trans hC).cellS HCELL.out (fun h => h)); go_simp; try with_reducible rfl); (try go_simp); refine hK _ ?_; clear hK K)
                              (refine late_read (i := 4) rfl (by kernel_rfl) (fun _ _ _ _ h => h) rfl HSS.out (fun K hK => ?_); apply Exists.intro; refine ⟨fun w' hC => ?_, ?_⟩; ((skip); go_simp; try with_reducible rfl); (try go_simp); refine hK _ ?_; clear hK K)
                              (refine late_read (i := 5) rfl (by kernel_rfl) (fun _ _ _ _ h => h) rfl HSS.out (fun K hK => ?_); apply Exists.intro; refine ⟨fun w' hC => ?_, ?_⟩; ((skip); go_simp; try with_reducible rfl); (try go_simp); refine hK _ ?_; clear hK K)
                              (refine late_read (i := 6) rfl (by kernel_rfl) (fun _ _ _ _ h => h) rfl HSS.out (fun K hK => ?_); apply Exists.intro; refine ⟨fun w' hC => ?_, ?_⟩; ((skip); go_simp; try with_reducible rfl); (try go_simp); refine hK _ ?_; clear hK K)
                              (refine late_read (i := 7) rfl (by kernel_rfl) (fun _ _ _ _ h => h) rfl HSS.out (fun K hK => ?_); apply Exists.intro; refine ⟨fun w' hC => ?_, ?_⟩; ((skip); go_simp; try with_reducible rfl); (try go_simp); refine hK _ ?_; clear hK K)
                              (refine late_read (i := 8) rfl (by kernel_rfl) (fun _ _ _ _ h => h) rfl HSS.out (fun K hK => ?_); apply Exists.intro; refine ⟨fun w' hC => ?_, ?_⟩; ((have q := (HDD.out.trans hC).cellS HCELL.out (fun h => h)); go_simp; try with_reducible rfl); (try go_simp); refine hK _ ?_; clear hK K)
                              (refine late_read (i := 9) rfl (by kernel_rfl) (fun _ _ _ _ h => h) rfl HSS.out (fun K hK => ?_); apply Exists.intro; refine ⟨fun w' hC => ?_, ?_⟩; ((skip); go_simp; try with_reducible rfl); (try go_simp); refine hK _ ?_; clear hK K)
                              (refine late_read (i := 10) rfl (by kernel_rfl) (fun _ _ _ _ h => h) rfl HSS.out (fun K hK => ?_); apply Exists.intro; refine ⟨fun w' hC => ?_, ?_⟩; ((skip); go_simp; try with_reducible rfl); (try go_simp); refine hK _ ?_; clear hK K)
                              (refine late_read (i := 11) rfl (by kernel_rfl) (fun _ _ _ _ h => h) rfl HSS.out (fun K hK => ?_); apply Exists.intro; refine ⟨fun w' hC => ?_, ?_⟩; ((have q := (HDD.out.trans hC).cellS (HGZ.out.2 j (by omega)) (fun h => h); rw [HMIJ.out] at q); go_simp; try with_reducible rfl); (try go_simp); refine hK _ ?_; clear hK K)
                              (refine late_read (i := 12) rfl (by kernel_rfl) (fun _ _ _ _ h => h) rfl HSS.out (fun K hK => ?_); apply Exists.intro; refine ⟨fun w' hC => ?_, ?_⟩; ((skip); go_simp; try with_reducible rfl); (try go_simp); refine hK _ ?_; clear hK K)
                              (refine late_skip (i := 13) rfl (by kernel_rfl) (fun _ _ _ _ h => h) rfl HSS.out (fun K hK => ?_); (try go_simp); refine hK _ ?_; clear hK K)
                              (refine late_skip (i := 14) rfl (by kernel_rfl) (fun _ _ _ _ h => h) rfl HSS.out (fun K hK => ?_); (try go_simp); refine hK _ ?_; clear hK K)
                              (refine late_skip (i := 15) rfl (by kernel_rfl) (fun _ _ _ _ h => h) rfl HSS.out (fun K hK => ?_); (try go_simp); refine hK _ ?_; clear hK K)
                              (refine late_skip (i := 16) rfl (by kernel_rfl) (fun _ _ _ _ h => h) rfl HSS.out (fun K hK => ?_); (try go_simp); refine hK _ ?_; clear hK K)
                              (refine late_skip (i := 17) rfl (by kernel_rfl) (fun _ _ _ _ h => h) rfl HSS.out (fun K hK => ?_); (try go_simp); refine hK _ ?_; clear hK K)
                              (refine late_skip (i := 18) rfl (by kernel_rfl) (fun _ _ _ _ h => h) rfl HSS.out (fun K hK => ?_); (try go_simp); refine hK _ ?_; clear hK K)
                              (refine late_skip (i := 19) rfl (by kernel_rfl) (fun _ _ _ _ h => h) rfl HSS.out (fun K hK => ?_); (try go_simp); refine hK _ ?_; clear hK K)
                              (refine late_skip (i := 20) rfl (by kernel_rfl) (fun _ _ _ _ h => h) rfl HSS.out (fun K hK => ?_); (try go_simp); refine hK _ ?_; clear hK K)
                              (refine late_skip (i := 21) rfl (by kernel_rfl) (fun _ _ _ _ h => h) rfl HSS.out (fun K hK => ?_); (try go_simp); refine hK _ ?_; clear hK K)
                              (refine late_skip (i := 22) rfl (by kernel_rfl) (fun _ _ _ _ h => h) rfl HSS.out (fun K hK => ?_); (try go_simp); refine hK _ ?_; clear hK K)
                              (refine late_skip (i := 23) rfl (by kernel_rfl) (fun _ _ _ _ h => h) rfl HSS.out (fun K hK => ?_); (try go_simp); refine hK _ ?_; clear hK K)
                              (refine late_skip (i := 24) rfl (by kernel_rfl) (fun _ _ _ _ h => h) rfl HSS.out (fun K hK => ?_); (try go_simp); refine hK _ ?_; clear hK K)
                              (refine late_skip (i := 25) rfl (by kernel_rfl) (fun _ _ _ _ h => h) rfl HSS.out (fun K hK => ?_); (try go_simp); refine hK _ ?_; clear hK K)
                              (refine late_read (i := 26) rfl (by kernel_rfl) (fun _ _ _ _ h => h) rfl HSS.out (fun K hK => ?_); apply Exists.intro; refine ⟨fun w' hC => ?_, ?_⟩; ((skip); go_simp; try with_reducible rfl); (try go_simp); refine hK _ ?_; clear hK K)
                              (refine late_read (i := 27) rfl (by kernel_rfl) (fun _ _ _ _ h => h) rfl HSS.out (fun K hK => ?_); apply Exists.intro; refine ⟨fun w' hC => ?_, ?_⟩; ((skip); go_simp; try with_reducible rfl); (try go_simp); refine hK _ ?_; clear hK K)
                              have hst := (HMAT.out.same HDD.out).set (i := i) (j := j) (by omega) (by omega) true rfl (HDD.out.cellS HCELL.out (fun h => h))
                              rw [setM_same HMIJ.out] at hst
                              obtain ⟨hset, hsc, -⟩ := hst
                              have k1 := HDD.out.cellS (HGZ.out.2 j (by omega)) (fun h => h)
                              have k2 := (HDD.out.frozen (p := ⟨gr, j, none⟩) hglt (fun h => h)).trans (HGZ.out.1 j)
                              have HSET := Lib.hid hset
                              have HSC := Lib.hid (HC.out.trans (HDD.out.any.trans (hsc.mono (T := fun k => w7.heap.size ≤ k) (fun k _ e => by have := HG.out; omega))))
                              clear hset hsc
                              (refine late_store (i := 28) (by kernel_rfl) rfl rfl (fun K hK => ?_); apply Exists.intro; refine ⟨?_, (fun h => absurd h (by decide)), ?_⟩; ((skip); go_simp; try first | with_reducible rfl | exact ⟨rfl, rfl⟩); (try go_simp); refine hK _ _ ?_; clear hK K)
                              refine late_done (by kernel_rfl) ?_ _
                              clear k1 k2
                              go_wp2
                              go_roundw
                              case rel => exact ⟨c + 1, M, by omega, by go_num, HSET.out, HTR.out, (fun h => by rw [HMIJ.out] at h; cases h), HSC.out⟩
                              case measure => simp [intOf]; omega
                            | false =>
                              have HMIJ := Lib.hid hmij
                              have hga := goN_le HLM.out i c
                              have hgb := goN_le HLM.out j c
                              clear hmij
                              obtain ⟨ga, ha⟩ : ∃ x, goN u i c = x := ⟨_, rfl⟩
                              obtain ⟨gb, hb⟩ : ∃ x, goN u j c = x := ⟨_, rfl⟩
                              rw [ha] at hga
                              rw [hb] at hgb
                              have HGA := Lib.hid (show _ ∧ _ from ⟨ha, hb⟩)
                              obtain ⟨g', gr2, hg', hcell2, -, -, -, hgc2⟩ := HMAT.out.get (i := ga) (by omega)
                              obtain rfl : g = g' := by injection hg' with e; injection e
                              obtain ⟨bb, hbb⟩ : ∃ b, M ga gb = b := ⟨_, rfl⟩
                              have HK2 := Lib.hid (show _ ∧ _ from ⟨hcell2, hgc2 gb (by omega)⟩)
                              rw [hbb] at HK2
                              have HBB := Lib.hid hbb
                              have i2 : (ga : Int) < (u.n.length : Int) + 1 := by omega
                              have j2 : (gb : Int) < (u.n.length : Int) + 1 := by omega
                              clear ha hb hg' hcell2 hgc2 hbb
                              go_upto_region 33 with (fail)
                              clear q0 q1 q2 q3 n0
                              obtain ⟨wd, hwd⟩ : ∃ x, wr.drew = x := ⟨_, rfl⟩
                              have HDD : Hid (Chg (fun _ => False) wr wd) := Lib.hid (by rw [← hwd]; exact (Chg.refl _ _).drew)
                              have HCD := Lib.hid (HC.out.trans HDD.out.any)
                              refine wp_region_late (fun x => Chg (fun _ => False) wd x) (fun i => decide (28 ≤ i)) (by kernel_rfl) ?_
                              show wpAnyL _ _ _ _ _ _ 29 (Array.replicate 29 false) _ wr.drew
                              rw [hwd]
                              clear hwd
                              have HSS : Hid (Chg (fun _ => False) wd wd) := Lib.hid (Chg.refl _ _)
                              (refine late_read (i := 0) rfl (by kernel_rfl) (fun _ _ _ _ h => h) rfl HSS.out (fun K hK => ?_); apply Exists.intro; refine ⟨fun w' hC => ?_, ?_⟩; ((skip); go_simp; try with_reducible rfl); (try go_simp); refine hK _ ?_; clear hK K)
                              (refine late_read (i := 1) rfl (by kernel_rfl) (fun _ _ _ _ h => h) rfl HSS.out (fun K hK => ?_); apply Exists.intro; refine ⟨fun w' hC => ?_, ?_⟩; ((skip); go_simp; try with_reducible rfl); (try go_simp); refine hK _ ?_; clear hK K)
                              (refine late_read (i := 2) rfl (by kernel_rfl) (fun _ _ _ _ h => h) rfl HSS.out (fun K hK => ?_); apply Exists.intro; refine ⟨fun w' hC => ?_, ?_⟩; ((skip); go_simp; try with_reducible rfl); (try go_simp); refine hK _ ?_; clear hK K)
                              (refine late_read (i := 3) rfl (by kernel_rfl) (fun _ _ _ _ h => h) rfl HSS.out (fun K hK => ?_); apply Exists.intro; refine ⟨fun w' hC => ?_, ?_⟩; ((have q := (HDD.out.trans hC).cellS HCELL.out (fun h => h)); go_simp; try with_reducible rfl); (try go_simp); refine hK _ ?_; clear hK K)
                              (refine late_read (i := 4) rfl (by kernel_rfl) (fun _ _ _ _ h => h) rfl HSS.out (fun K hK => ?_); apply Exists.intro; refine ⟨fun w' hC => ?_, ?_⟩; ((skip); go_simp; try with_reducible rfl); (try go_simp); refine hK _ ?_; clear hK K)
                              (refine late_read (i := 5) rfl (by kernel_rfl) (fun _ _ _ _ h => h) rfl HSS.out (fun K hK => ?_); apply Exists.intro; refine ⟨fun w' hC => ?_, ?_⟩; ((skip); go_simp; try with_reducible rfl); (try go_simp); refine hK _ ?_; clear hK K)
                              (refine late_read (i := 6) rfl (by kernel_rfl) (fun _ _ _ _ h => h) rfl HSS.out (fun K hK => ?_); apply Exists.intro; refine ⟨fun w' hC => ?_, ?_⟩; ((skip); go_simp; try with_reducible rfl); (try go_simp); refine hK _ ?_; clear hK K)
                              (refine late_read (i := 7) rfl (by kernel_rfl) (fun _ _ _ _ h => h) rfl HSS.out (fun K hK => ?_); apply Exists.intro; refine ⟨fun w' hC => ?_, ?_⟩; ((skip); go_simp; try with_reducible rfl); (try go_simp); refine hK _ ?_; clear hK K)
                              (refine late_read (i := 8) rfl (by kernel_rfl) (fun _ _ _ _ h => h) rfl HSS.out (fun K hK => ?_); apply Exists.intro; refine ⟨fun w' hC => ?_, ?_⟩; ((have q := (HDD.out.trans hC).cellS HCELL.out (fun h => h)); go_simp; try with_reducible rfl); (try go_simp); refine hK _ ?_; clear hK K)
                              (refine late_read (i := 9) rfl (by kernel_rfl) (fun _ _ _ _ h => h) rfl HSS.out (fun K hK => ?_); apply Exists.intro; refine ⟨fun w' hC => ?_, ?_⟩; ((skip); go_simp; try with_reducible rfl); (try go_simp); refine hK _ ?_; clear hK K)
                              (refine late_read (i := 10) rfl (by kernel_rfl) (fun _ _ _ _ h => h) rfl HSS.out (fun K hK => ?_); apply Exists.intro; refine ⟨fun w' hC => ?_, ?_⟩; ((skip); go_simp; try with_reducible rfl); (try go_simp); refine hK _ ?_; clear hK K)
                              (refine late_read (i := 11) rfl (by kernel_rfl) (fun _ _ _ _ h => h) rfl HSS.out (fun K hK => ?_); apply Exists.intro; refine ⟨fun w' hC => ?_, ?_⟩; ((have q := (HDD.out.trans hC).cellS (HGZ.out.2 j (by omega)) (fun h => h); rw [HMIJ.out] at q); go_simp; try with_reducible rfl); (try go_simp); refine hK _ ?_; clear hK K)
                              (refine late_read (i := 12) rfl (by kernel_rfl) (fun _ _ _ _ h => h) rfl HSS.out (fun K hK => ?_); apply Exists.intro; refine ⟨fun w' hC => ?_, ?_⟩; ((skip); go_simp; try with_reducible rfl); (try go_simp); refine hK _ ?_; clear hK K)
                              (refine late_read (i := 13) rfl (by kernel_rfl) (fun _ _ _ _ h => h) rfl HSS.out (fun K hK => ?_); apply Exists.intro; refine ⟨fun w' hC => ?_, ?_⟩; ((skip); go_simp; try with_reducible rfl); (try go_simp); refine hK _ ?_; clear hK K)
                              (refine late_read (i := 14) rfl (by kernel_rfl) (fun _ _ _ _ h => h) rfl HSS.out (fun K hK => ?_); apply Exists.intro; refine ⟨fun w' hC => ?_, ?_⟩; ((obtain ⟨q0, q1, q2, q3⟩ := HUX.out w' (HCD.out.trans hC.any)); go_simp; try with_reducible rfl); (try go_simp); refine hK _ ?_; clear hK K)
                              (refine late_read (i := 15) rfl (by kernel_rfl) (fun _ _ _ _ h => h) rfl HSS.out (fun K hK => ?_); apply Exists.intro; refine ⟨fun w' hC => ?_, ?_⟩; ((skip); go_simp; try with_reducible rfl); (try go_simp); refine hK _ ?_; clear hK K)
                              (refine late_read (i := 16) rfl (by kernel_rfl) (fun _ _ _ _ h => h) rfl HSS.out (fun K hK => ?_); apply Exists.intro; refine ⟨fun w' hC => ?_, ?_⟩; ((skip); go_simp; try with_reducible rfl); (try go_simp); refine hK _ ?_; clear hK K)
                              (refine late_read (i := 20) rfl (by kernel_rfl) (fun _ _ _ _ h => h) rfl HSS.out (fun K hK => ?_); apply Exists.intro; refine ⟨fun w' hC => ?_, ?_⟩; ((obtain ⟨q0, q1, q2, q3⟩ := HUX.out w' (HCD.out.trans hC.any)); go_simp; try with_reducible rfl); (try go_simp); refine hK _ ?_; clear hK K)
                              (refine late_read (i := 21) rfl (by kernel_rfl) (fun _ _ _ _ h => h) rfl HSS.out (fun K hK => ?_); apply Exists.intro; refine ⟨fun w' hC => ?_, ?_⟩; ((skip); go_simp; try with_reducible rfl); (try go_simp); refine hK _ ?_; clear hK K)
                              (refine late_read (i := 22) rfl (by kernel_rfl) (fun _ _ _ _ h => h) rfl HSS.out (fun K hK => ?_); apply Exists.intro; refine ⟨fun w' hC => ?_, ?_⟩; ((skip); go_simp; try with_reducible rfl); (try go_simp); refine hK _ ?_; clear hK K)
                              refine late_call (i := 17) (by kernel_rfl) rfl rfl 21 #[.agg #[.slice r1a r1n r1c, .slice c1a c1n c1c, .slice (some ⟨gn, on, none⟩) u.n.length n1c, .slice e1a e1n e1c], .int .i64 i, .int .i64 c] (fun v w'' => v = .int .i64 ga ∧ Chg (fun _ => False) wd w'') (by go_simp) ?_ ?_
                              · refine (lawGoes_any u (r1a, r1n, r1c) (c1a, c1n, c1c) (some ⟨gn, on, none⟩, u.n.length, n1c) (e1a, e1n, e1c) _ i c wd (HTU.out.same HCD.out.fresh) HLM.out (by omega) hcl2).mono ?_
                                rintro e wy ⟨rfl, hc⟩
                                exact ⟨_, rfl, fun _ => hc, by rw [HGA.out.1], hc⟩
                              rintro v w5 - ⟨rfl, hc⟩ K hK
                              have HX5 := Lib.hid hc
                              clear hc
                              (try go_simp)
                              refine hK _ ?_
                              clear hK K
                              have HSS := HX5
                              (refine late_read (i := 18) rfl (by kernel_rfl) (fun _ _ _ _ h => h) rfl HSS.out (fun K hK => ?_); apply Exists.intro; refine ⟨fun w' hC => ?_, ?_⟩; ((skip); go_simp; try with_reducible rfl); (try go_simp); refine hK _ ?_; clear hK K)
                              (refine late_read (i := 19) rfl (by kernel_rfl) (fun _ _ _ _ h => h) rfl HSS.out (fun K hK => ?_); apply Exists.intro; refine ⟨fun w' hC => ?_, ?_⟩; ((have q := (HDD.out.trans hC).cellS HK2.out.1 (fun h => h)); go_simp; try with_reducible rfl); (try go_simp); refine hK _ ?_; clear hK K)
                              refine late_call (i := 23) (by kernel_rfl) rfl rfl 21 #[.agg #[.slice r1a r1n r1c, .slice c1a c1n c1c, .slice (some ⟨gn, on, none⟩) u.n.length n1c, .slice e1a e1n e1c], .int .i64 j, .int .i64 c] (fun v w'' => v = .int .i64 gb ∧ Chg (fun _ => False) w5 w'') (by go_simp) ?_ ?_
                              · refine (lawGoes_any u (r1a, r1n, r1c) (c1a, c1n, c1c) (some ⟨gn, on, none⟩, u.n.length, n1c) (e1a, e1n, e1c) _ j c w5 (HTU.out.same (HCD.out.trans HX5.out.any).fresh) HLM.out (by omega) hcl2).mono ?_
                                rintro e wy ⟨rfl, hc⟩
                                exact ⟨_, rfl, fun _ => HX5.out.trans hc, by rw [HGA.out.2], hc⟩
                              rintro v w6 - ⟨rfl, hc⟩ K hK
                              have HX6 := Lib.hid (HX5.out.trans hc)
                              clear hc HX5
                              (try go_simp)
                              refine hK _ ?_
                              clear hK K
                              have HSS := HX6
                              (refine late_read (i := 24) rfl (by kernel_rfl) (fun _ _ _ _ h => h) rfl HSS.out (fun K hK => ?_); apply Exists.intro; refine ⟨fun w' hC => ?_, ?_⟩; ((skip); go_simp; try with_reducible rfl); (try go_simp); refine hK _ ?_; clear hK K)
                              (refine late_read (i := 25) rfl (by kernel_rfl) (fun _ _ _ _ h => h) rfl HSS.out (fun K hK => ?_); apply Exists.intro; refine ⟨fun w' hC => ?_, ?_⟩; ((have q := (HDD.out.trans hC).cellS HK2.out.2 (fun h => h)); go_simp; try with_reducible rfl); (try go_simp); refine hK _ ?_; clear hK K)
                              (refine late_read (i := 26) rfl (by kernel_rfl) (fun _ _ _ _ h => h) rfl HSS.out (fun K hK => ?_); apply Exists.intro; refine ⟨fun w' hC => ?_, ?_⟩; ((skip); go_simp; try with_reducible rfl); (try go_simp); refine hK _ ?_; clear hK K)
                              (refine late_read (i := 27) rfl (by kernel_rfl) (fun _ _ _ _ h => h) rfl HSS.out (fun K hK => ?_); apply Exists.intro; refine ⟨fun w' hC => ?_, ?_⟩; ((skip); go_simp; try with_reducible rfl); (try go_simp); refine hK _ ?_; clear hK K)
                              have HD6 := Lib.hid (HDD.out.trans HX6.out)
                              obtain ⟨hset, hsc, -⟩ := (HMAT.out.same HD6.out).set (i := i) (j := j) (by omega) (by omega) bb rfl (HD6.out.cellS HCELL.out (fun h => h))
                              have k1 := HD6.out.cellS (HGZ.out.2 j (by omega)) (fun h => h)
                              have k2 := (HD6.out.frozen (p := ⟨gr, j, none⟩) hglt (fun h => h)).trans (HGZ.out.1 j)
                              have HSET := Lib.hid hset
                              have HSC := Lib.hid (HC.out.trans (HD6.out.any.trans (hsc.mono (T := fun k => w7.heap.size ≤ k) (fun k _ e => by have := HG.out; omega))))
                              clear hset hsc
                              (refine late_store (i := 28) (by kernel_rfl) rfl rfl (fun K hK => ?_); apply Exists.intro; refine ⟨?_, (fun h => absurd h (by decide)), ?_⟩; ((skip); go_simp; try first | with_reducible rfl | exact ⟨rfl, rfl⟩); (try go_simp); refine hK _ _ ?_; clear hK K)
                              refine late_done (by kernel_rfl) ?_ _
                              clear k1 k2
                              have HX : Hid (ToldR u r i j true (setM M i j bb) ∧ (setM M i j bb i j = false → ∀ c', c' < c + 1 → setM M i j bb (goN u i c') (goN u j c') = false)) := Lib.hid (by
                                cases hbv : bb with
                                | true =>
                                  exact ⟨HTR.out.set HLM.out (by omega) (by omega) hcl2 (by rw [HGA.out.1, HGA.out.2, HBB.out, hbv]), fun h => by rw [setM_at] at h; cases h⟩
                                | false =>
                                  rw [setM_same HMIJ.out]
                                  refine ⟨HTR.out, fun h c' hc' => ?_⟩
                                  by_cases e : c' = c
                                  · subst e; rw [HGA.out.1, HGA.out.2, HBB.out, hbv]
                                  · exact HCC.out h c' (by omega))
                              go_wp2
                              go_roundw
                              case rel => exact ⟨c + 1, _, by omega, by go_num, HSET.out, HX.out.1, HX.out.2, HSC.out⟩
                              case measure => simp [intOf]; omega
                          · obtain rfl : c = colsN u := by omega
                            have b6 : decide (((colsN u : Nat) : Int) < (l0.length : Int)) = false := by have := HLL.out; simp; omega
                            have b7 : ¬ colsN u < l0.length := by have := HLL.out; omega
                            have HX := Lib.hid (HTR.out.skip HLM.out (show i ≤ u.n.length by omega) (show j ≤ u.n.length by omega) (by
                              cases hmij : M i j with
                              | true => exact .inl rfl
                              | false => exact .inr (HCC.out hmij)))
                            go_wp2
                            go_roundw
                            case rel => exact ⟨j + 1, M, by omega, by go_num, HMAT.out, HX.out, HC.out⟩
                            case measure => simp [intOf]; omega
                      · obtain rfl : j = u.n.length + 1 := by omega
                        have b5 : decide (((u.n.length + 1 : Nat) : Int) < (u.n.length : Int) + 1) = false := by simp
                        have HX := Lib.hid HTR.out.row
                        go_wp2
                        go_roundw
                        case rel => exact ⟨i + 1, M, by omega, by go_num, HMAT.out, HX.out, HC.out⟩
                        case measure => simp [intOf]; omega
                  · obtain rfl : i = u.n.length + 1 := by omega
                    have b4 : decide (((u.n.length + 1 : Nat) : Int) < (u.n.length : Int) + 1) = false := by simp
                    have HX := Lib.hid HTR.out.next
                    go_wp2
                    go_roundw
                    case rel => exact ⟨r + 1, M, by omega, by go_num, HMAT.out, HX.out, HC.out⟩
                    case measure => simp [intOf]; omega
              · obtain rfl : r = u.n.length + 1 := by omega
                have b3 : decide (((u.n.length + 1 : Nat) : Int) < (u.n.length : Int) + 1) = false := by simp
                have HX : Hid (MatAt wr g (.slice (some ⟨g, 0, none⟩) (u.n.length + 1) (u.n.length + 1)) (fun a b => !eqB u a b) (u.n.length + 1) (u.n.length + 1)) := Lib.hid (HMAT.out.congr (fun a b ha hb => HTM.out.done (by omega) (by omega)))
                clear HMAT HTR HTM
                go_wp2
                obtain ⟨wo4, rfl⟩ : ∃ wo : World, wo = wr := ⟨_, rfl⟩
                go_loopw [17] (fun q wx => ∃ a : Nat, a ≤ u.n.length + 1 ∧ q = .int .i64 a ∧ wx = wo4) (fun q _ => u.n.length + 1 - (intOf q).toNat)
                case atStart => exact ⟨0, by omega, rfl, rfl⟩
                case round =>
                  obtain ⟨a, ha, rfl, rfl⟩ := hrel
                  by_cases hal : a < u.n.length + 1
                  · have b1 : decide ((a : Int) < (u.n.length : Int) + 1) = true := by simp; omega
                    obtain ⟨wo5, rfl⟩ : ∃ wo : World, wo = wr := ⟨_, rfl⟩
                    go_wp2
                    go_loopw [18] (fun q wx => ∃ b : Nat, b ≤ a ∧ q = .int .i64 b ∧ wx = wo5) (fun q _ => a - (intOf q).toNat)
                    case atStart => exact ⟨0, by omega, rfl, rfl⟩
                    case round =>
                      obtain ⟨b, hb, rfl, rfl⟩ := hrel
                      by_cases hbl : b < a
                      · have b2 : decide ((b : Int) < (a : Int)) = true := by simp; omega
                        have i1 : (a : Int) < (u.n.length : Int) + 1 := by omega
                        have j1 : (b : Int) < (u.n.length : Int) + 1 := by omega
                        obtain ⟨g', gr, hgg, hcell, hgB, hglt, hgz, hgc⟩ := HX.out.get (i := a) (by omega)
                        obtain rfl : g = g' := by injection hgg with e; injection e
                        have k0 := hgc b (by omega)
                        clear hgc hgz hgg
                        by_cases hx : b = 0 ∧ a = u.n.length
                        · obtain ⟨rfl, rfl⟩ := hx
                          cases hq : eqB u u.n.length 0 with
                          | true =>
                            rw [hq] at k0
                            go_wp2
                            go_roundw
                            case rel => exact ⟨0 + 1, by omega, by go_num, trivial⟩
                            case measure => simp [intOf]; omega
                          | false =>
                            rw [hq] at k0
                            go_wp2
                            go_roundw
                            case rel => exact ⟨0 + 1, by omega, by go_num, trivial⟩
                            case measure => simp [intOf]; omega
                        · have hq : eqB u a b = false := by
                            by_cases hau : a < u.n.length
                            · rw [eqB_comm]; exact HAP.out b a hau hbl
                            · obtain rfl : a = u.n.length := by omega
                              rw [eqB_comm]; exact HLV.out b (by omega) (by omega)
                          rw [hq] at k0
                          go_wp2
                          go_roundw
                          case rel => exact ⟨b + 1, by omega, by go_num, trivial⟩
                          case measure => simp [intOf]; omega
                      · obtain rfl : b = a := by omega
                        have b2 : decide ((b : Int) < (b : Int)) = false := by simp
                        go_wp2
                        go_roundw
                        case rel => exact ⟨b + 1, by omega, by go_num, trivial⟩
                        case measure => simp [intOf]; omega
                  · obtain rfl : a = u.n.length + 1 := by omega
                    have b1 : decide (((u.n.length + 1 : Nat) : Int) < (u.n.length : Int) + 1) = false := by simp
                    clear HX
                    go_wp2_with fail
                    refine (lives_any wr).mono ?_
                    rintro e w9 ⟨rfl, hc⟩
                    have HCE := Lib.hid (HCB.out.trans (HC.out.fresh.trans hc))
                    clear hc
                    go_wp2
                    go_ret
                    exact ⟨rfl, HCE.out⟩
end Go.Proofs.Ytodohgckncnipaa
/- 'MinsDoes' for whatever table and runes are handed in: true, and all reads as it did. No condition. -/
namespace Go.Proofs.Ytodohgckncnipaa.minsDoes
open Go.ChangeShapes Go.WideShapes Go.ChangeAt Go.RowKit Go.Deep Go.WideMaps

set_option maxRecDepth 100000 in
theorem lifted (os : Os) (started : os.Started) (H : Type) (enc : TypeId × Value → H) :
    ReturnsInHanded {} Try.checked os 5 .any (Rows.minsDoesSpec.pre6 enc Try.prog Try.f5 Rows.minsDoesRow.domain false) (Rows.minsDoesSpec.post enc Try.prog Try.f5 false true false false) := by
  refine returnsInHanded_of_change_sized (C := Try.checked) own started (by kernel_rfl) Try.func5
    (ChangeSpec.witness6 (enc := enc) (C := Try.checked) false ⟨#[], #[.agg #[.slice none 0 0, .slice none 0 0, .slice none 0 0, .slice none 0 0], .slice none 0 0], []⟩ 8 (by kernel_rfl) (by kernel_rfl) (by kernel_rfl) (by kernel_rfl)) ?_
  intro W base args ds gs before hval0 hW hcnd hsz0 _
  have hval : ∀ (j : Nat) t v, Try.f5.params[j]? = some t → args[j]? = some v → Value.okWide Try.prog W .any base t v := hval0
  have hW' := hW
  obtain ⟨p, q, hA0, hV, rfl, hfz, hnd⟩ := hW
  have hA : DataW.TrodAll enc Try.prog W 0 (fun _ => true) true Try.f5.params.toList args.toList ds p := hA0
  rw [Try.params5] at hA hval hsz0
  obtain ⟨v0, vs0, d0, ds0, p0, q0, hargs, rfl, rfl, h0, r0⟩ := trodAll_cons hA
  obtain ⟨v1, vs1, d1, ds1, p1, q1, rfl, rfl, rfl, h1, r1⟩ := trodAll_cons r0
  obtain ⟨rfl, rfl, rfl⟩ := trodAll_nil r1
  obtain rfl : args = #[v0, v1] := by cases args; simp_all
  obtain ⟨rfl, rfl⟩ := trodVars_none hV
  have k0 := h0
  have lt0 : ∀ x ∈ p0, x.block < W.heap.size := by obtain ⟨m, hm⟩ := k0; exact DataW.trod_lt m _ _ _ hm
  have k1 := h1
  have lt1 : ∀ x ∈ p1, x.block < W.heap.size := by obtain ⟨m, hm⟩ := k1; exact DataW.trod_lt m _ _ _ hm
  have hszA : ∀ n ∈ d0.weights Try.prog 26, n ≤ reachBytes := fun n hn => by
    have := List.all_eq_true.1 hsz0 n (DataW.weights_mem_each (j := 0) rfl rfl n hn)
    simpa using this
  have hszB : ∀ n ∈ d1.weights Try.prog 44, n ≤ reachBytes := fun n hn => by
    have := List.all_eq_true.1 hsz0 n (DataW.weights_mem_each (j := 1) rfl rfl n hn)
    simpa using this
  obtain ⟨t, rs, cs, ns, es, rfl, hT, hV9⟩ := open_tab (hval 0 26 v0 rfl rfl) h0 hszA
  obtain ⟨aD, nD, cD, rfl⟩ := okWide_slice Try.underlying44 (hval 1 44 v1 rfl rfl)
  obtain ⟨fuel, hf2⟩ := h1
  obtain ⟨a', c', D, e2, hD, -, hDl⟩ := open_list runeE (by kernel_rfl) (by kernel_rfl) (fun _ => True) hf2 hszB (fun fuel cs' d' pl ht hl _ => by
    obtain ⟨x, e, _, w⟩ := DataW.trod_int Try.underlying21 ht
    exact ⟨x, e, bounds_i32 w, trivial⟩)
  simp [Value.cells] at e2
  obtain ⟨rfl, rfl, rfl⟩ := e2
  have hDL : D.length ≤ 100000000000000 := by have hrb : reachBytes = 140737488351232 := rfl; have : runeE.bs = 4 := rfl; rw [this] at hDl; omega
  clear hA0 hval0
  refine (lawDoes_any t rs cs ns es 0 0 aD D.length cD D W hT hV9 hD hDL).mono fun e W' ⟨he, hc⟩ => ?_
  subst he
  have bel := hc.to_below
  exact ⟨_, rfl, _, _, _, [], _, [], hW', trodAll_mk1 (shut_bool Try.underlying4 _), (trodAll_cons_mk (Below.trod laidOut (by kernel_rfl) (of_decide_eq_true (by kernel_rfl)) k0 bel lt0) (trodAll_cons_mk (Below.trod laidOut (by kernel_rfl) (of_decide_eq_true (by kernel_rfl)) k1 bel lt1) trodAll_mk0)), rfl, bel.frame _, fun h => by cases h⟩

theorem proved : Rows.MinsDoesSaid :=
  OpenClaim.holds_of_wide 5 Try.f5 rfl rfl rfl rfl rfl rfl rfl ⟨rfl, rfl, rfl, rfl, rfl⟩ rfl rfl rfl rfl rfl (by kernel_rfl) Try.func5 (by kernel_rfl)
    (of_decide_eq_true (by kernel_rfl)) (by unfold Func.isWrapper; first | (rw [if_pos (by decide +kernel)]; kernel_rfl) | (rw [if_neg (by decide +kernel)]; exact ⟨rfl, rfl⟩))
    (fun os started H enc _ => lifted os started H enc)
#print axioms proved
end Go.Proofs.Ytodohgckncnipaa.minsDoes
