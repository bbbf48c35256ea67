/- The document's Least: the walk. -/
import Derived.Test.YtodohgckncnipaaGA7
/- The document's Least: the walk. -/
namespace Go.Proofs.Ytodohgckncnipaa
open Go.RowKit

/-- What the document's Least answers. -/
def LeastPost (t : TabD) (w : World) (e : Ending) (w' : World) : Prop :=
  if mayT t = true then ∃ rs cs ns es : Sl, e = .returned (.tuple #[tabV rs cs ns es, .int .i64 0]) ∧ TabIn w' 0 rs cs ns es (leastT t) ∧ Chg (fun _ => False) w w'
  else e = .returned (.tuple #[tabV (none, 0, 0) (none, 0, 0) (none, 0, 0) (none, 0, 0), .int .i64 1]) ∧ Chg (fun _ => False) w w'

set_option maxRecDepth 100000 in
set_option maxHeartbeats 32000000 in
theorem refLeast_any (t : TabD) (rs cs ns es : Sl) (B : Nat) (w : World) (h : TabIn w B rs cs ns es t) (hf : Fair t) :
    Calls Try.prog 11 #[tabV rs cs ns es] w (LeastPost t w) := by
  have HTB := Lib.hid h
  have HF := Lib.hid hf
  obtain ⟨ra, rn, rc⟩ := rs
  obtain ⟨ca, cn, cc⟩ := cs
  obtain ⟨na, nn, nc⟩ := ns
  obtain ⟨ea, en, ec⟩ := es
  obtain ⟨rfl, hr1⟩ := h.r.len
  obtain ⟨rfl, hc1⟩ := h.c.len
  obtain ⟨rfl, hn1⟩ := h.n.len
  obtain ⟨rfl, he1⟩ := h.e.len
  have fr := hf.r
  have fc := hf.c
  have fn := hf.n
  have fe := hf.e
  clear h hf
  obtain ⟨wa, hwa⟩ : ∃ x, x = ((w.alloc (.cells #[.slice ra t.r.length rc, .slice ca t.c.length cc, .slice na t.n.length nc, .slice ea t.e.length ec] 33)).alloc (.cells #[.slice none 0 0, .slice none 0 0, .slice none 0 0, .slice none 0 0] 33)).alloc (.cells #[.slice none 0 0, .slice none 0 0, .slice none 0 0, .slice none 0 0] 33) := ⟨_, rfl⟩
  have HC0 : Hid (Chg (fun _ => False) w wa) := Lib.hid (by rw [hwa]; exact (((Chg.refl _ _).alloc _).alloc _).alloc _)
  have HT0 : Hid (∀ wx, Chg (fun k => w.heap.size + 1 ≤ k) wa wx → wx.cell? ⟨w.heap.size, 0, none⟩ = some (.slice ra t.r.length rc) ∧ wx.cell? ⟨w.heap.size, 1, none⟩ = some (.slice ca t.c.length cc) ∧ wx.cell? ⟨w.heap.size, 2, none⟩ = some (.slice na t.n.length nc) ∧ wx.cell? ⟨w.heap.size, 3, none⟩ = some (.slice ea t.e.length ec)) := Lib.hid (fun wx hx => by
    subst hwa
    exact (tabBox w (ra, t.r.length, rc) (ca, t.c.length, cc) (na, t.n.length, nc) (ea, t.e.length, ec) 33).chg ((((Chg.refl (fun k => w.heap.size + 1 ≤ k) _).alloc _).alloc _).trans hx) (fun h => by omega))
  have HR0 : Hid (∀ wx, Chg (fun k => w.heap.size + 2 ≤ k) wa wx → (wx.cell? ⟨w.heap.size + 1, 0, none⟩ = some (.slice none 0 0) ∧ wx.cell? ⟨w.heap.size + 1, 1, none⟩ = some (.slice none 0 0) ∧ wx.cell? ⟨w.heap.size + 1, 2, none⟩ = some (.slice none 0 0) ∧ wx.cell? ⟨w.heap.size + 1, 3, none⟩ = some (.slice none 0 0)) ∧ ∀ j, wx.frozen? ⟨w.heap.size + 1, j, none⟩ = false) := Lib.hid (fun wx hx => by
    obtain ⟨wt, hwt⟩ : ∃ x, x = w.alloc (.cells #[.slice ra t.r.length rc, .slice ca t.c.length cc, .slice na t.n.length nc, .slice ea t.e.length ec] 33) := ⟨_, rfl⟩
    rw [← hwt] at hwa
    have hst : wt.heap.size = w.heap.size + 1 := by rw [hwt]; simp
    rw [← hst]
    subst hwa
    have hx2 := ((Chg.refl (fun k => wt.heap.size + 1 ≤ k) (wt.alloc (.cells #[.slice none 0 0, .slice none 0 0, .slice none 0 0, .slice none 0 0] 33))).alloc (.cells #[.slice none 0 0, .slice none 0 0, .slice none 0 0, .slice none 0 0] 33)).trans (hx.mono (fun k _ e => by omega))
    have hno : ¬ (wt.heap.size + 1 ≤ wt.heap.size) := by omega
    refine ⟨⟨hx2.cellS ?_ hno, hx2.cellS ?_ hno, hx2.cellS ?_ hno, hx2.cellS ?_ hno⟩, fun j => (hx2.frozen (p := ⟨wt.heap.size, j, none⟩) (by simp) hno).trans (World.frozen?_alloc_new _ _ _ _)⟩ <;> · rw [World.cell?_alloc_new]; rfl)
  have HO0 : Hid (∀ wx, Chg (fun k => w.heap.size + 3 ≤ k) wa wx → (wx.cell? ⟨w.heap.size + 2, 0, none⟩ = some (.slice none 0 0) ∧ wx.cell? ⟨w.heap.size + 2, 1, none⟩ = some (.slice none 0 0) ∧ wx.cell? ⟨w.heap.size + 2, 2, none⟩ = some (.slice none 0 0) ∧ wx.cell? ⟨w.heap.size + 2, 3, none⟩ = some (.slice none 0 0)) ∧ ∀ j, wx.frozen? ⟨w.heap.size + 2, j, none⟩ = false) := Lib.hid (fun wx hx => by
    obtain ⟨wt, hwt⟩ : ∃ x, x = (w.alloc (.cells #[.slice ra t.r.length rc, .slice ca t.c.length cc, .slice na t.n.length nc, .slice ea t.e.length ec] 33)).alloc (.cells #[.slice none 0 0, .slice none 0 0, .slice none 0 0, .slice none 0 0] 33) := ⟨_, rfl⟩
    rw [← hwt] at hwa
    have hst : wt.heap.size = w.heap.size + 2 := by rw [hwt]; simp
    rw [← hst] at ⊢
    subst hwa
    have hx2 : Chg (fun k => wt.heap.size + 1 ≤ k) (wt.alloc (.cells #[.slice none 0 0, .slice none 0 0, .slice none 0 0, .slice none 0 0] 33)) wx := hx.mono (fun k _ e => by omega)
    have hno : ¬ (wt.heap.size + 1 ≤ wt.heap.size) := by omega
    refine ⟨⟨hx2.cellS ?_ hno, hx2.cellS ?_ hno, hx2.cellS ?_ hno, hx2.cellS ?_ hno⟩, fun j => (hx2.frozen (p := ⟨wt.heap.size, j, none⟩) (by simp) hno).trans (World.frozen?_alloc_new _ _ _ _)⟩ <;> · rw [World.cell?_alloc_new]; rfl)
  have HSA : Hid (wa.heap.size = w.heap.size + 3) := Lib.hid (by rw [hwa]; simp)
  have HWA : Hid (wa = ((w.alloc (.cells #[.slice ra t.r.length rc, .slice ca t.c.length cc, .slice na t.n.length nc, .slice ea t.e.length ec] 33)).alloc (.cells #[.slice none 0 0, .slice none 0 0, .slice none 0 0, .slice none 0 0] 33)).alloc (.cells #[.slice none 0 0, .slice none 0 0, .slice none 0 0, .slice none 0 0] 33)) := Lib.hid hwa
  clear hwa
  obtain ⟨q0, q1, q2, q3⟩ := HT0.out wa (Chg.refl _ _)
  show Calls Try.prog 11 #[.agg #[.slice ra t.r.length rc, .slice ca t.c.length cc, .slice na t.n.length nc, .slice ea t.e.length ec]] w _
  cases hmay : mayT t with
  | false =>
    have HMY := Lib.hid hmay
    clear hmay
    go_enter Try.func11, Try.ntmps11
    go_upto_region 2 with (fail)
    rw [← HWA.out]
    go_wp2_with fail
    refine (refMay_any t (ra, t.r.length, rc) (ca, t.c.length, cc) (na, t.n.length, nc) (ea, t.e.length, ec) B _ (HTB.out.same HC0.out) HF.out).mono ?_
    rintro e w1 ⟨rfl, hc⟩
    rw [HMY.out]
    have HC1 := Lib.hid hc
    clear hc q0 q1 q2 q3
    obtain ⟨⟨p0, p1, p2, p3⟩, p4⟩ := HO0.out w1 HC1.out.any
    obtain ⟨⟨y0, y1, y2, y3⟩, y4⟩ := HR0.out w1 HC1.out.any
    have z0 := y4 0
    have z1 := y4 1
    have z2 := y4 2
    have z3 := y4 3
    obtain ⟨s0, s1, s2, s3, hsc, -⟩ := store4 (.slice none 0 0) (.slice none 0 0) (.slice none 0 0) (.slice none 0 0) y0 y1 y2 y3
    have HS := Lib.hid (show _ ∧ _ ∧ _ ∧ _ from ⟨s0, s1, s2, s3⟩)
    have HCE : Hid (Chg (fun _ => False) w ((((w1.setCell ⟨w.heap.size + 1, 0, none⟩ (.slice none 0 0)).setCell ⟨w.heap.size + 1, 1, none⟩ (.slice none 0 0)).setCell ⟨w.heap.size + 1, 2, none⟩ (.slice none 0 0)).setCell ⟨w.heap.size + 1, 3, none⟩ (.slice none 0 0))) := Lib.hid (((HC0.out.trans HC1.out).any (S := fun k => w.heap.size ≤ k)).trans (hsc.mono (fun k _ e => by omega))).fresh
    clear hsc s0 s1 s2 s3 p4 y4
    go_wp2
    obtain ⟨s0, s1, s2, s3⟩ := HS.out
    exact bodyPost_ret (v := .tuple #[.agg #[.slice none 0 0, .slice none 0 0, .slice none 0 0, .slice none 0 0], .int .i64 1]) (by simp [results, Try.results11, go_sem, s0, s1, s2, s3]) rfl (by unfold LeastPost; rw [if_neg (by rw [HMY.out]; decide)]; exact ⟨rfl, HCE.out⟩)
  | true =>
    have HMY := Lib.hid hmay
    have HM := Lib.hid (mayT_iff.1 hmay)
    have hel := HM.out.el
    have hcl := HM.out.cl
    have hn0 := HM.out.nl
    have hcN : colsN t ≤ 1000000000 := by
      obtain ⟨l, hl⟩ : ∃ l, t.n[0]? = some l := ⟨_, List.getElem?_eq_getElem hn0⟩
      have := (may_row HM.out hl).1
      have := HF.out.l l (List.mem_of_getElem? hl)
      omega
    have HEL := Lib.hid (show _ ∧ _ from ⟨hel, hcl⟩)
    clear hmay hel hcl
    go_enter Try.func11, Try.ntmps11
    go_upto_region 2 with (fail)
    rw [← HWA.out]
    go_wp2_with fail
    refine (refMay_any t (ra, t.r.length, rc) (ca, t.c.length, cc) (na, t.n.length, nc) (ea, t.e.length, ec) B _ (HTB.out.same HC0.out) HF.out).mono ?_
    rintro e w1 ⟨rfl, hc⟩
    rw [HMY.out]
    have HC1 := Lib.hid hc
    clear hc q0 q1 q2 q3
    obtain ⟨q0, q1, q2, q3⟩ := HT0.out w1 HC1.out.any
    go_wp2_with fail
    refine (told_any t (ra, t.r.length, rc) (ca, t.c.length, cc) (na, t.n.length, nc) (ea, t.e.length, ec) B w1 (HTB.out.same (HC0.out.trans HC1.out)) HM.out fn hcN).mono ?_
    rintro e w2 ⟨ma, mc, rfl, hmat, hc⟩
    have HC2 := Lib.hid (HC1.out.trans hc)
    have HMAT := Lib.hid hmat
    clear hmat hc q0 q1 q2 q3
    obtain ⟨q0, q1, q2, q3⟩ := HT0.out w2 HC2.out.any
    go_upto_region 8 with (at_make; refine intE.wpList_make rfl _ _ _ rfl rfl _ _ _ _ (t.n.length + 1) (t.n.length + 1) rfl rfl rfl (by omega) (by omega) (by omega) ?_; intro w3 HR3 HC3)
    have HNUM : Hid (NumAt w3 (w2.heap.size + 1) (t.n.length + 1) (fun _ => 0)) := Lib.hid (by
      have h := HR3.out
      have e : (List.range (t.n.length + 1)).map (fun _ => (0 : Int)) = List.replicate (t.n.length + 1) intE.z := by
        apply List.ext_getElem?
        intro q
        by_cases hq : q < t.n.length + 1
        · simp [hq]; rfl
        · rw [List.getElem?_eq_none (by simp; omega), List.getElem?_eq_none (by simp; omega)]
      unfold NumAt
      rw [e]
      have e2 : (w2.alloc (Obj.cells #[Value.int IntKind.i64 0] 3)).heap.size = w2.heap.size + 1 := by simp
      rw [e2] at h
      exact h)
    have HSZ2 : Hid (w2.heap.size + 1 < w3.heap.size) := Lib.hid HNUM.out.lt
    have HC23 : Hid (Chg (fun _ => False) w2 w3) := Lib.hid (((Chg.refl _ w2).alloc _).trans HC3.out)
    have HOR : Hid (intE.Own w3 w2.heap.size (.slice (some ⟨w2.heap.size, 0, none⟩) 1 1) (natsI [0])) := Lib.hid (.inr ⟨w2.heap.size, [0], rfl, Nat.le_refl _, (Elt.Row.alloc (E := intE) w2 [0] _ (show ∀ a ∈ ([0] : List Int), I.Byte a by decide)).chg HC3.out (fun h => h), List.prefix_refl _, by simp [maxLen]⟩)
    clear HR3 HC3 q0 q1 q2 q3
    go_wp2
    go_loopw [9] (fun q wr => ∃ (k : Nat) (f : Nat → Int), k ≤ t.n.length + 1 ∧ q = .int .i64 k ∧ NumAt wr (w2.heap.size + 1) (t.n.length + 1) f ∧ (∀ s, s < k → f s = numT t [0] s) ∧ Chg (fun x => x = w2.heap.size + 1) w3 wr) (fun q _ => t.n.length + 1 - (intOf q).toNat)
    case atStart => exact ⟨0, _, by omega, rfl, HNUM.out, fun s h => absurd h (Nat.not_lt_zero _), Chg.refl _ _⟩
    case round =>
      clear HNUM
      obtain ⟨k, f, hk, rfl, hnum, hfk, hc⟩ := hrel
      have HNUM := Lib.hid hnum
      have HFK := Lib.hid hfk
      have HC := Lib.hid hc
      clear hnum hfk hc
      by_cases hkl : k ≤ t.n.length
      · skip
        as_aux_lemma =>
          -- @dev{
          have b1 : decide ((k : Int) ≤ (t.n.length : Int)) = true := by simp; omega
          have k1 : (k : Int) < (t.n.length : Int) + 1 := by omega
          obtain ⟨c0, z0, -⟩ := HNUM.out.get (j := k) (by omega)
          have HC2R := Lib.hid (HC23.out.any.trans HC.out)
          obtain ⟨g, gr, rfl, hcell, hgB, hglt, -, hgc⟩ := HMAT.out.get (i := k) (by omega)
          have m0' := HC2R.out.cellS hcell (fun e => by have e : g = w2.heap.size + 1 := e; have := World.block_lt_of_cell? _ _ hcell; simp only at this; omega)
          have m1' := HC2R.out.cellS (hgc 0 (by omega)) (fun e => by have e : gr = w2.heap.size + 1 := e; omega)
          have HS1 := HNUM.out.set (j := k) (v := -1) (by omega) (by constructor <;> omega)
          have hsc1 := setCellChg wr (w2.heap.size + 1) k (.int .i64 (-1))
          have m2' : (wr.setCell ⟨w2.heap.size + 1, k, none⟩ (.int .i64 (-1))).cell? ⟨g, k, none⟩ = some (.slice (some ⟨gr, 0, none⟩) (t.n.length + 1) (t.n.length + 1)) := hsc1.cellS m0' (fun e => by have e : g = w2.heap.size + 1 := e; have := World.block_lt_of_cell? _ _ hcell; simp only at this; omega)
          have m3' : (wr.setCell ⟨w2.heap.size + 1, k, none⟩ (.int .i64 (-1))).cell? ⟨gr, 0, none⟩ = some (.bool (!eqB t k 0)) := hsc1.cellS m1' (fun e => by have e : gr = w2.heap.size + 1 := e; omega)
          obtain ⟨c1, z1, -⟩ := HS1.get (j := k) (by omega)
          simp only [if_true] at c1
          cases he : eqB t k 0 with
          | true =>
            rw [he] at m1' m3'
            have HS2 := Lib.hid (HS1.set (j := k) (v := 0) (by omega) (by constructor <;> omega))
            have HCC := Lib.hid (HC.out.trans (hsc1.trans (setCellChg _ (w2.heap.size + 1) k (.int .i64 0))))
            have HF2 : Hid (∀ s, s < k + 1 → (if s = k then (0 : Int) else if s = k then -1 else f s) = numT t [0] s) := Lib.hid (fun s hs => by
              by_cases e : s = k
              · subst e; rw [if_pos rfl, numT_one, he]; rfl
              · rw [if_neg e, if_neg e]; exact HFK.out s (by omega))
            clear HS1 hsc1 hcell hgc he
            go_wp2
            go_roundw
            case rel => exact ⟨k + 1, _, by omega, by go_num, HS2.out, HF2.out, HCC.out⟩
            case measure => simp [intOf]; omega
          | false =>
            rw [he] at m1' m3'
            have HS2 := Lib.hid HS1
            have HCC := Lib.hid (HC.out.trans hsc1)
            have HF2 : Hid (∀ s, s < k + 1 → (if s = k then (-1 : Int) else f s) = numT t [0] s) := Lib.hid (fun s hs => by
              by_cases e : s = k
              · subst e; rw [if_pos rfl, numT_one, he]; rfl
              · rw [if_neg e]; exact HFK.out s (by omega))
            clear HS1 hsc1 hcell hgc he
            go_wp2
            go_roundw
            case rel => exact ⟨k + 1, _, by omega, by go_num, HS2.out, HF2.out, HCC.out⟩
            case measure => simp [intOf]; omega
          -- @dev}
      · obtain rfl : k = t.n.length + 1 := by omega
        have b1 : decide ((t.n.length : Int) + 1 ≤ (t.n.length : Int)) = false := by simp; omega
        have ecast : ((t.n.length + 1 : Nat) : Int) = (t.n.length : Int) + 1 := rfl
        rw [ecast]
        clear ecast
        have HNUM0 := Lib.hid (HNUM.out.congr (f' := numT t [0]) (fun s hs => HFK.out s hs))
        have HOR0 := Lib.hid (HOR.out.chgB HC.out (fun g hg e => by simp [Value.ownBlock] at hg; omega))
        have HCS : Hid (Chg (fun x => w2.heap.size ≤ x) w2 wr) := Lib.hid (HC23.out.any.trans (HC.out.mono (fun k _ e => by omega)))
        have HSW2 : Hid (w2.heap.size ≥ w.heap.size + 3) := Lib.hid (by have := HC2.out.size; have := HSA.out; omega)
        have HT2 : Hid (∀ wx, Chg (fun k => w2.heap.size ≤ k) w2 wx → wx.cell? ⟨w.heap.size, 0, none⟩ = some (.slice ra t.r.length rc) ∧ wx.cell? ⟨w.heap.size, 1, none⟩ = some (.slice ca t.c.length cc) ∧ wx.cell? ⟨w.heap.size, 2, none⟩ = some (.slice na t.n.length nc) ∧ wx.cell? ⟨w.heap.size, 3, none⟩ = some (.slice ea t.e.length ec)) := Lib.hid (fun wx hx => HT0.out wx (HC2.out.any.trans (hx.mono (fun k _ e => by have := HSW2.out; omega))))
        have HTB2 : Hid (∀ wx, Chg (fun k => w2.heap.size ≤ k) w2 wx → TabIn wx B (ra, t.r.length, rc) (ca, t.c.length, cc) (na, t.n.length, nc) (ea, t.e.length, ec) t) := Lib.hid (fun wx hx => HTB.out.same ((HC0.out.trans HC2.out).trans hx.fresh))
        have HM2 : Hid (∀ wx, Chg (fun k => w2.heap.size ≤ k) w2 wx → MatAt wx w1.heap.size (.slice ma (t.n.length + 1) mc) (fun a b => !eqB t a b) (t.n.length + 1) (t.n.length + 1)) := Lib.hid (fun wx hx => HMAT.out.same hx.fresh)
        have HF0 : Hid (FoundTo t 0 [0]) := Lib.hid (FoundTo.start HM.out)
        obtain ⟨wp, hwp⟩ : ∃ x, x = wr := ⟨_, rfl⟩
        rw [← hwp] at HNUM0 HOR0 HCS ⊢
        clear hwp HNUM HFK HC HC23 HOR
        go_wp2
        go_loopw [7, 10] (fun v q wr => ∃ (i : Nat) (o : List Nat) (f : Nat → Int), q = .int .i64 i ∧ FoundTo t i o ∧ intE.Own wr w2.heap.size v (natsI o) ∧ (∀ g, v.ownBlock = some g → g ≠ w2.heap.size + 1) ∧ NumAt wr (w2.heap.size + 1) (t.n.length + 1) f ∧ (∀ s, s ≤ t.n.length → f s = numT t o s) ∧ Chg (fun x => w2.heap.size ≤ x) w2 wr) (fun _ q _ => t.n.length + 1 - (intOf q).toNat)
        case atStart => exact ⟨0, [0], _, rfl, HF0.out, HOR0.out, (fun g hg => by simp [Value.ownBlock] at hg; omega), HNUM0.out, fun s hs => rfl, HCS.out⟩
        case round =>
          clear HNUM0 HOR0 HCS HF0
          obtain ⟨i, o, f, rfl, hfo, hor, hne, hnum, hfn, hc⟩ := hrel
          obtain ⟨va, vc, hv, hvc, -⟩ := hor.clip
          rw [natsI_len] at hv hvc
          subst hv
          have HFO := Lib.hid hfo
          have HOR := Lib.hid hor
          have HNE := Lib.hid hne
          have HNUM := Lib.hid hnum
          have HFN := Lib.hid hfn
          have HC := Lib.hid hc
          have hol := hfo.1.len_le
          have hio := hfo.2.1
          clear hfo hor hne hnum hfn hc
          by_cases hil : i < o.length
          · skip
            as_aux_lemma =>
              -- @dev{
              have b2 : i < o.length := hil
              obtain ⟨s, hs⟩ : ∃ s, o[i]? = some s := ⟨_, List.getElem?_eq_getElem hil⟩
              have HS := Lib.hid hs
              have hsl := HFO.out.1.lt s (List.mem_of_getElem? hs)
              clear hs
              obtain ⟨wq, hwq⟩ : ∃ x, x = wr := ⟨_, rfl⟩
              rw [← hwq] at HOR HNUM HC ⊢
              clear hwq
              go_wp2
              go_loopw [7, 11] (fun v q wr => ∃ (k : Nat) (f : Nat → Int), k ≤ t.c.length ∧ q = .int .i64 k ∧ intE.Own wr w2.heap.size v (natsI (rowK t s k o)) ∧ (∀ g, v.ownBlock = some g → g ≠ w2.heap.size + 1) ∧ NumAt wr (w2.heap.size + 1) (t.n.length + 1) f ∧ (∀ x, x ≤ t.n.length → f x = numT t (rowK t s k o) x) ∧ Chg (fun x => w2.heap.size ≤ x) w2 wr) (fun _ q _ => t.c.length - (intOf q).toNat)
              case atStart => exact ⟨0, f, by omega, rfl, HOR.out, HNE.out, HNUM.out, HFN.out, HC.out⟩
              case round =>
                clear HOR HNE HNUM HFN HC
                obtain ⟨k, f, hk, rfl, hor, hne, hnum, hfn, hc⟩ := hrel
                obtain ⟨hord, hpre⟩ := rowK_ok HM.out HFO.out.1 s k
                obtain ⟨va, vc, hv, hvc, -⟩ := hor.clip
                rw [natsI_len] at hv hvc
                subst hv
                have HORD := Lib.hid hord
                have HOR := Lib.hid hor
                have HNE := Lib.hid hne
                have HNUM := Lib.hid hnum
                have HFN := Lib.hid hfn
                have HC := Lib.hid hc
                have hrl := hord.len_le
                have hir : i < (rowK t s k o).length := Nat.lt_of_lt_of_le hil hpre.length_le
                have hrs : (rowK t s k o)[i]? = some s := by
                  obtain ⟨r, hr⟩ := hpre
                  rw [← hr, List.getElem?_append_left hil]
                  exact HS.out
                obtain ⟨q0, q1, q2, q3⟩ := HT2.out wr hc
                clear hord hpre hnum hfn hc
                by_cases hkl : k < t.c.length
                · have b3 : k < t.c.length := hkl
                  obtain ⟨c, gc, oc, hcx, hca, c0, x0, x1, -, -⟩ := (HTB2.out wr HC.out).c.getI hkl
                  subst hca
                  obtain ⟨cn', rfl⟩ : ∃ c' : Nat, c = c' := ⟨c.toNat, by have := (HM.out.cb c (List.mem_of_getElem? hcx)).1; omega⟩
                  have hcc := col_lt HM.out (List.mem_of_getElem? hcx)
                  rw [Int.toNat_natCast] at hcc
                  obtain ⟨go, oo, hoa, c1⟩ : ∃ go oo, va = some ⟨go, oo, none⟩ ∧ wr.cell? ⟨go, oo + i, none⟩ = some (.int .i64 (s : Int)) := by
                    obtain ⟨x, g, o', hx, ha, hcell, -⟩ := (hor.in' (c' := vc) hvc).getI (k := i) (by rw [natsI_len]; exact hir)
                    rw [natsI_get hrs] at hx
                    obtain rfl := Option.some.inj hx
                    exact ⟨g, o', ha, hcell⟩
                  subst hoa
                  have HCX := Lib.hid hcx
                  have HCC := Lib.hid (show _ ∧ _ from ⟨c0, c1⟩)
                  have hdl := goN_le HM.out s cn'
                  obtain ⟨d, hd⟩ : ∃ d, goN t s cn' = d := ⟨_, rfl⟩
                  rw [hd] at hdl
                  have HD := Lib.hid hd
                  clear hcx c0 c1 hor hne hrs hd
                  go_upto_region 20 with (fail)
                  clear q0 q1 q2 q3
                  refine wp_region_same (fun w' => Chg (fun _ => False) wr w') (by kernel_rfl) (by kernel_rfl) ?_ ?_
                  · exact (Chg.refl _ _).drew
                  (refine wpC_read rfl (fun _ _ _ h => h) (fun K hK => ?_); apply Exists.intro; refine ⟨fun _ w' _ hC => ?_, ?_⟩; ((obtain ⟨q0, q1, q2, q3⟩ := HT2.out w' (HC.out.trans hC.any); have c0 := hC.cellS HCC.out.1 (fun h => h); have c1 := hC.cellS HCC.out.2 (fun h => h)); go_simp; try with_reducible rfl); (try go_simp); refine hK _ ?_; clear hK K); (refine wpC_read rfl (fun _ _ _ h => h) (fun K hK => ?_); apply Exists.intro; refine ⟨fun _ w' _ hC => ?_, ?_⟩; ((skip); go_simp; try with_reducible rfl); (try go_simp); refine hK _ ?_; clear hK K); (refine wpC_read rfl (fun _ _ _ h => h) (fun K hK => ?_); apply Exists.intro; refine ⟨fun _ w' _ hC => ?_, ?_⟩; ((skip); go_simp; try with_reducible rfl); (try go_simp); refine hK _ ?_; clear hK K); (refine wpC_read rfl (fun _ _ _ h => h) (fun K hK => ?_); apply Exists.intro; refine ⟨fun _ w' _ hC => ?_, ?_⟩; ((obtain ⟨q0, q1, q2, q3⟩ := HT2.out w' (HC.out.trans hC.any); have c0 := hC.cellS HCC.out.1 (fun h => h); have c1 := hC.cellS HCC.out.2 (fun h => h)); go_simp; try with_reducible rfl); (try go_simp); refine hK _ ?_; clear hK K); (refine wpC_read rfl (fun _ _ _ h => h) (fun K hK => ?_); apply Exists.intro; refine ⟨fun _ w' _ hC => ?_, ?_⟩; ((obtain ⟨q0, q1, q2, q3⟩ := HT2.out w' (HC.out.trans hC.any); have c0 := hC.cellS HCC.out.1 (fun h => h); have c1 := hC.cellS HCC.out.2 (fun h => h)); go_simp; try with_reducible rfl); (try go_simp); refine hK _ ?_; clear hK K); (refine wpC_read rfl (fun _ _ _ h => h) (fun K hK => ?_); apply Exists.intro; refine ⟨fun _ w' _ hC => ?_, ?_⟩; ((skip); go_simp; try with_reducible rfl); (try go_simp); refine hK _ ?_; clear hK K); (refine wpC_read rfl (fun _ _ _ h => h) (fun K hK => ?_); apply Exists.intro; refine ⟨fun _ w' _ hC => ?_, ?_⟩; ((obtain ⟨q0, q1, q2, q3⟩ := HT2.out w' (HC.out.trans hC.any); have c0 := hC.cellS HCC.out.1 (fun h => h); have c1 := hC.cellS HCC.out.2 (fun h => h)); go_simp; try with_reducible rfl); (try go_simp); refine hK _ ?_; clear hK K); (refine wpC_read rfl (fun _ _ _ h => h) (fun K hK => ?_); apply Exists.intro; refine ⟨fun _ w' _ hC => ?_, ?_⟩; ((skip); go_simp; try with_reducible rfl); (try go_simp); refine hK _ ?_; clear hK K); (refine wpC_read rfl (fun _ _ _ h => h) (fun K hK => ?_); apply Exists.intro; refine ⟨fun _ w' _ hC => ?_, ?_⟩; ((obtain ⟨q0, q1, q2, q3⟩ := HT2.out w' (HC.out.trans hC.any); have c0 := hC.cellS HCC.out.1 (fun h => h); have c1 := hC.cellS HCC.out.2 (fun h => h)); go_simp; try with_reducible rfl); (try go_simp); refine hK _ ?_; clear hK K); (refine wpC_read rfl (fun _ _ _ h => h) (fun K hK => ?_); apply Exists.intro; refine ⟨fun _ w' _ hC => ?_, ?_⟩; ((obtain ⟨q0, q1, q2, q3⟩ := HT2.out w' (HC.out.trans hC.any); have c0 := hC.cellS HCC.out.1 (fun h => h); have c1 := hC.cellS HCC.out.2 (fun h => h)); go_simp; try with_reducible rfl); (try go_simp); refine hK _ ?_; clear hK K)
                  refine wpC_call rfl (Value.int .i64 d )  40  ( #[.agg #[.slice ra t.r.length rc, .slice (some ⟨gc, oc, none⟩) t.c.length cc, .slice na t.n.length nc, .slice ea t.e.length ec], .int .i64 s, .int .i64 cn']) (fun w' => by go_simp) (fun _ w' _ hC => ?_) (fun K hK => ?_)
                  · refine (refGoes_any t (ra, t.r.length, rc) (some ⟨gc, oc, none⟩, t.c.length, cc) (na, t.n.length, nc) (ea, t.e.length, ec) B s cn' w' (HTB2.out w' (HC.out.trans hC.any)) HM.out (by omega) hcc).mono ?_
                    rintro e wz ⟨rfl, hc⟩
                    exact ⟨by rw [HD.out], hC.trans hc⟩
                  ((try go_simp); refine hK _ ?_; clear hK K)
                  (refine wpC_read rfl (fun _ _ _ h => h) (fun K hK => ?_); apply Exists.intro; refine ⟨fun _ w' _ hC => ?_, ?_⟩; ((skip); go_simp; try with_reducible rfl); (try go_simp); refine hK _ ?_; clear hK K)
                  refine wpC_nil ?_
                  intro wx hC2
                  have HC2 := Lib.hid hC2
                  have HCX2 := Lib.hid (HC.out.trans hC2.any)
                  have HSTEP : Hid (rowK t s (k + 1) o = insN t (rowK t s k o) d) := Lib.hid (by rw [rowK_step HCX.out, Int.toNat_natCast, HD.out])
                  obtain ⟨c0, z0, f0, f1⟩ := (HNUM.out.same hC2).get (j := d) (by omega)
                  obtain ⟨gm, gmr, rfl, hcell, hgB, hglt, -, hgc⟩ := (HM2.out wx HCX2.out).get (i := d) (by omega)
                  have m0' := hgc t.n.length (by omega)
                  have HMR := Lib.hid (show _ ∧ _ from ⟨hcell, hgc⟩)
                  have dn1 : (d : Int) < (t.n.length : Int) + 1 := by omega
                  have dn2 : (t.n.length : Int) < (t.n.length : Int) + 1 := by omega
                  clear hgc hC2
                  have HNX := Lib.hid (HNUM.out.same HC2.out)
                  have HOX := Lib.hid (HOR.out.chg HC2.out (fun _ _ _ h => h))
                  clear HNUM HOR HCC HCX
                  cases hdn : eqB t d t.n.length with
                  | true =>
                    rw [hdn] at m0'
                    have HFX : Hid (∀ x, x ≤ t.n.length → f x = numT t (rowK t s (k + 1) o) x) := Lib.hid (fun x hx => by
                      have e : insN t (rowK t s k o) d = rowK t s k o := by unfold insN; rw [hdn, Bool.true_or, if_pos rfl]
                      rw [HSTEP.out, e]; exact HFN.out x hx)
                    have HOX2 : Hid (intE.Own wx w2.heap.size (.slice (some ⟨go, oo, none⟩) (rowK t s k o).length vc) (natsI (rowK t s (k + 1) o))) := Lib.hid (by
                      have e : insN t (rowK t s k o) d = rowK t s k o := by unfold insN; rw [hdn, Bool.true_or, if_pos rfl]
                      rw [HSTEP.out, e]; exact HOX.out)
                    clear hdn
                    go_wp2
                    go_roundw
                    case rel => exact ⟨k + 1, f, by omega, by go_num, HOX2.out, HNE.out, HNX.out, HFX.out, HCX2.out⟩
                    case measure => simp [intOf]; omega
                  | false =>
                    rw [hdn] at m0'
                    have hfd := HFN.out d hdl
                    by_cases hfd0 : 0 ≤ f d
                    · have hany := (numT_any t (rowK t s k o) d).1.1 (by rw [← hfd]; exact hfd0)
                      have HFX : Hid (∀ x, x ≤ t.n.length → f x = numT t (rowK t s (k + 1) o) x) := Lib.hid (fun x hx => by
                        have e : insN t (rowK t s k o) d = rowK t s k o := by unfold insN; rw [hany, Bool.or_true, if_pos rfl]
                        rw [HSTEP.out, e]; exact HFN.out x hx)
                      have HOX2 : Hid (intE.Own wx w2.heap.size (.slice (some ⟨go, oo, none⟩) (rowK t s k o).length vc) (natsI (rowK t s (k + 1) o))) := Lib.hid (by
                        have e : insN t (rowK t s k o) d = rowK t s k o := by unfold insN; rw [hany, Bool.or_true, if_pos rfl]
                        rw [HSTEP.out, e]; exact HOX.out)
                      have b4 : decide (0 ≤ f d) = true := by simpa using hfd0
                      clear hdn hfd hany
                      go_wp2
                      go_roundw
                      case rel => exact ⟨k + 1, f, by omega, by go_num, HOX2.out, HNE.out, HNX.out, HFX.out, HCX2.out⟩
                      case measure => simp [intOf]; omega
                    · have hany : (rowK t s k o).any (eqB t d) = false := by
                        cases ha : (rowK t s k o).any (eqB t d) with
                        | false => rfl
                        | true => exact absurd (by rw [hfd]; exact (numT_any t (rowK t s k o) d).1.2 ha) hfd0
                      have HINS : Hid (rowK t s (k + 1) o = rowK t s k o ++ [d]) := Lib.hid (by
                        rw [HSTEP.out]
                        unfold insN
                        rw [hdn, hany, Bool.or_false, if_neg (by decide)])
                      have HANY := Lib.hid hany
                      have b4 : decide (0 ≤ f d) = false := by simpa using hfd0
                      have HLT : Hid ((rowK t s k o).length < t.n.length) := Lib.hid (by
                        have := (rowK_ok HM.out HFO.out.1 s (k + 1)).1.len_le
                        rw [HINS.out] at this
                        simp at this
                        omega)
                      clear hdn hfd hany
                      go_wp2
                      clear m0' hcell c0 z0 b4 hfd0
                      obtain ⟨wo, hwo⟩ : ∃ x, x = wx := ⟨_, rfl⟩
                      rw [← hwo] at HNX HOX HCX2 HMR ⊢
                      go_loopw [13] (fun q wr => ∃ (j : Nat) (f' : Nat → Int), j ≤ t.n.length + 1 ∧ q = .int .i64 j ∧ NumAt wr (w2.heap.size + 1) (t.n.length + 1) f' ∧ (∀ x, x < j → f' x = numT t (rowK t s k o ++ [d]) x) ∧ (∀ x, j ≤ x → x ≤ t.n.length → f' x = numT t (rowK t s k o) x) ∧ Chg (fun x => x = w2.heap.size + 1) wo wr) (fun q _ => t.n.length + 1 - (intOf q).toNat)
                      case atStart => exact ⟨0, f, by omega, rfl, HNX.out, fun x h => absurd h (Nat.not_lt_zero _), fun x _ hx => HFN.out x hx, Chg.refl _ _⟩
                      case round =>
                        clear HNX
                        obtain ⟨j, f', hj, rfl, hnum, hf1, hf2, hc⟩ := hrel
                        have HNUM := Lib.hid hnum
                        have HF1 := Lib.hid hf1
                        have HF2 := Lib.hid hf2
                        have HC := Lib.hid hc
                        clear hnum hf1 hf2 hc
                        by_cases hjl : j ≤ t.n.length
                        · have b5 : decide ((j : Int) ≤ (t.n.length : Int)) = true := by simp; omega
                          have jn1 : (j : Int) < (t.n.length : Int) + 1 := by omega
                          obtain ⟨c0, z0, -⟩ := HNUM.out.get (j := j) (by omega)
                          have HCW := Lib.hid (HCX2.out.trans (HC.out.mono (T := fun k => w2.heap.size ≤ k) (fun k _ e => by omega)))
                          obtain ⟨gm', gmr, hgm, hcell, -, -, -, hgc⟩ := (HM2.out wr HCW.out).get (i := j) (by omega)
                          obtain rfl : gm = gm' := by injection hgm with e; injection e
                          have m0' := hgc d (by omega)
                          clear hgm hgc
                          cases he : eqB t j d with
                          | true =>
                            rw [he] at m0'
                            have HSET := Lib.hid (HNUM.out.set (j := j) (v := ((rowK t s k o).length : Int)) (by omega) (by constructor <;> omega))
                            have HCC := Lib.hid (HC.out.trans (setCellChg wr (w2.heap.size + 1) j (.int .i64 ((rowK t s k o).length : Int))))
                            have HG1 : Hid (∀ x, x < j + 1 → (if x = j then ((rowK t s k o).length : Int) else f' x) = numT t (rowK t s k o ++ [d]) x) := Lib.hid (fun x hx => by
                              by_cases e : x = j
                              · subst e; rw [if_pos rfl, numT_app HANY.out, he]; rfl
                              · rw [if_neg e]; exact HF1.out x (by omega))
                            have HG2 : Hid (∀ x, j + 1 ≤ x → x ≤ t.n.length → (if x = j then ((rowK t s k o).length : Int) else f' x) = numT t (rowK t s k o) x) := Lib.hid (fun x hx hx2 => by
                              rw [if_neg (by omega)]; exact HF2.out x (by omega) hx2)
                            clear he
                            go_wp2
                            go_roundw
                            case rel => exact ⟨j + 1, _, by omega, by go_num, HSET.out, HG1.out, HG2.out, HCC.out⟩
                            case measure => simp [intOf]; omega
                          | false =>
                            rw [he] at m0'
                            have HG1 : Hid (∀ x, x < j + 1 → f' x = numT t (rowK t s k o ++ [d]) x) := Lib.hid (fun x hx => by
                              by_cases e : x = j
                              · subst e; rw [numT_app HANY.out, he]; exact HF2.out x (Nat.le_refl _) hjl
                              · exact HF1.out x (by omega))
                            have HG2 : Hid (∀ x, j + 1 ≤ x → x ≤ t.n.length → f' x = numT t (rowK t s k o) x) := Lib.hid (fun x hx hx2 => HF2.out x (by omega) hx2)
                            clear he
                            go_wp2
                            go_roundw
                            case rel => exact ⟨j + 1, f', by omega, by go_num, HNUM.out, HG1.out, HG2.out, HC.out⟩
                            case measure => simp [intOf]; omega
                        · obtain rfl : j = t.n.length + 1 := by omega
                          have b5 : decide ((t.n.length : Int) + 1 ≤ (t.n.length : Int)) = false := by simp; omega
                          have ecast : ((t.n.length + 1 : Nat) : Int) = (t.n.length : Int) + 1 := rfl
                          rw [ecast]
                          clear ecast
                          have HOW := Lib.hid (HOX.out.chgB HC.out (fun g hg e => HNE.out g hg e))
                          have HCW := Lib.hid (HCX2.out.trans (HC.out.mono (T := fun k => w2.heap.size ≤ k) (fun k _ e => by omega)))
                          have HFX : Hid (∀ x, x ≤ t.n.length → f' x = numT t (rowK t s (k + 1) o) x) := Lib.hid (fun x hx => by rw [HINS.out]; exact HF1.out x (by omega))
                          have HB2 : Hid (w2.heap.size ≤ wr.heap.size ∧ w2.heap.size + 1 < wr.heap.size) := Lib.hid ⟨HCW.out.size, HNUM.out.lt⟩
                          have HYB : Hid (∀ a ∈ [(d : Int)], intE.ok a) := Lib.hid (fun a ha => by rw [List.mem_singleton] at ha; subst ha; constructor <;> omega)
                          go_wp2_with (at_builtin; refine Elt.wpList_append2 intE rfl _ _ 23 23 rfl rfl w2.heap.size (.slice (some ⟨go, oo, none⟩) (rowK t s k o).length vc) (natsI (rowK t s k o)) [(d : Int)] (.slice (some ⟨wr.heap.size, 0, none⟩) 1 1) rfl rfl (HOW.out.chg ((Chg.refl (fun _ => False) _).alloc _) (fun _ _ _ h => h)) (by have := HB2.out; simp; omega) (intE.srcLit (Y := [(d : Int)]) 1 HYB.out) HYB.out (by rw [natsI_len]; have := HLT.out; simp; omega) ?_; intro v' w5 HO5 HC5 HC5b)
                          have HOY : Hid (intE.Own w5 w2.heap.size v' (natsI (rowK t s (k + 1) o))) := Lib.hid (by rw [HINS.out, natsI_app]; exact HO5.out)
                          have hb := HC5b.out.2
                          have HNV : Hid (∀ g, v'.ownBlock = some g → g ≠ w2.heap.size + 1) := Lib.hid (fun g hg e => by
                            rcases hb with h | h
                            · rw [h] at hg; exact HNE.out g hg e
                            · rw [h] at hg
                              have := Option.some.inj hg
                              have := HB2.out
                              simp at *
                              omega)
                          have HNY : Hid (NumAt w5 (w2.heap.size + 1) (t.n.length + 1) f') := Lib.hid (Elt.Row.chg (Elt.Row.chg HNUM.out ((Chg.refl (fun _ => False) _).alloc _) (fun h => h)) HC5b.out.1 (fun e => HNE.out _ e rfl))
                          have HCY : Hid (Chg (fun x => w2.heap.size ≤ x) w2 w5) := Lib.hid (HCW.out.trans (((Chg.refl _ _).alloc _).trans HC5.out))
                          clear hb HC5b HC5 HO5
                          go_roundw
                          case rel => exact ⟨k + 1, f', by omega, by go_num, HOY.out, HNV.out, HNY.out, HFX.out, HCY.out⟩
                          case measure => simp [intOf]; omega
                · obtain rfl : k = t.c.length := by omega
                  have b3 : ¬ t.c.length < t.c.length := by omega
                  rw [rowK_all] at HFN hrs hir
                  have HX := Lib.hid (HFO.out.next HM.out HS.out)
                  have HOX : Hid (intE.Own wr w2.heap.size (.slice va (rowK t s t.c.length o).length vc) (natsI (bfsRow t s o))) := Lib.hid (by rw [← rowK_all]; exact HOR.out)
                  clear HOR hor hne
                  go_wp2
                  go_roundw
                  case rel => exact ⟨i + 1, bfsRow t s o, f, by go_num, HX.out, HOX.out, HNE.out, HNUM.out, HFN.out, HC.out⟩
                  case measure => simp [intOf]; omega
              -- @dev}
          · obtain rfl : i = o.length := by omega
            have b2 : ¬ o.length < o.length := by omega
            have HOE := Lib.hid HFO.out.done
            have HORD := Lib.hid HFO.out.1
            obtain ⟨bo, hbo⟩ : ∃ bo, bo = w.heap.size + 1 + 1 := ⟨_, rfl⟩
            rw [← hbo]
            have hbo2 : w.heap.size + 2 = bo := hbo.symm
            (try rw [hbo2])
            have HBO := Lib.hid hbo
            clear hbo hbo2
            obtain ⟨wp2, hwp2⟩ : ∃ x, x = wr := ⟨_, rfl⟩
            rw [← hwp2] at HOR HNUM HC ⊢
            clear hwp2 HNE HFO
            have HB0 : Hid (bo < w2.heap.size ∧ w2.heap.size ≤ wp2.heap.size) := Lib.hid (by have := HSW2.out; have := HBO.out; exact ⟨by omega, HC.out.size⟩)
            have HCP : Hid (Chg (fun k => w.heap.size + 3 ≤ k) wa wp2) := Lib.hid (HC2.out.any.trans (HC.out.mono (fun k _ e => by have := HSW2.out; omega)))
            have HST : Hid (∀ wx, Chg (fun k => k = bo ∨ wp2.heap.size ≤ k) wp2 wx → Chg (fun k => k = bo) wp2 wx) := Lib.hid (fun wx hx => hx.mono (fun k hk e => by omega))
            have HT3 : Hid (∀ wx, Chg (fun k => k = bo ∨ wp2.heap.size ≤ k) wp2 wx → wx.cell? ⟨w.heap.size, 0, none⟩ = some (.slice ra t.r.length rc) ∧ wx.cell? ⟨w.heap.size, 1, none⟩ = some (.slice ca t.c.length cc) ∧ wx.cell? ⟨w.heap.size, 2, none⟩ = some (.slice na t.n.length nc) ∧ wx.cell? ⟨w.heap.size, 3, none⟩ = some (.slice ea t.e.length ec)) := Lib.hid (fun wx hx => HT0.out wx ((HCP.out.mono (fun k _ e => by omega)).trans (hx.mono (fun k _ e => by have := HB0.out; have := HSW2.out; have := HBO.out; omega))))
            have HTB3 : Hid (∀ wx, Chg (fun k => k = bo ∨ wp2.heap.size ≤ k) wp2 wx → TabIn wx B (ra, t.r.length, rc) (ca, t.c.length, cc) (na, t.n.length, nc) (ea, t.e.length, ec) t) := Lib.hid (fun wx hx => HTB.out.same ((HC0.out.any (S := fun k => w.heap.size ≤ k)).trans ((HCP.out.mono (fun k _ e => by omega)).trans (hx.mono (fun k _ e => by have := HB0.out; have := HSW2.out; have := HBO.out; omega)))).fresh)
            have HM3 : Hid (∀ wx, Chg (fun k => k = bo ∨ wp2.heap.size ≤ k) wp2 wx → MatAt wx w1.heap.size (.slice ma (t.n.length + 1) mc) (fun a b => !eqB t a b) (t.n.length + 1) (t.n.length + 1)) := Lib.hid (fun wx hx => (HM2.out wp2 HC.out).chgB (HST.out wx hx) (fun g hg _ e => by have := HC1.out.size; have := HSA.out; have := HBO.out; omega))
            have HN3 : Hid (∀ wx, Chg (fun k => k = bo ∨ wp2.heap.size ≤ k) wp2 wx → NumAt wx (w2.heap.size + 1) (t.n.length + 1) f) := Lib.hid (fun wx hx => Elt.Row.chg HNUM.out (HST.out wx hx) (fun e => by have := HB0.out; omega))
            have HO3 : Hid (∀ wx, Chg (fun k => k = bo ∨ wp2.heap.size ≤ k) wp2 wx → intE.In wx w2.heap.size (va, o.length, vc) (natsI o)) := Lib.hid (fun wx hx => ((HOR.out.chg (HST.out wx hx) (fun g hg _ e => by have := HB0.out; omega)).in' (c' := vc) hvc))
            have HCL := Lib.hid (order_ok HM.out).2
            rw [HOE.out] at HCL
            have HPH : Hid (Ph2 wp2 wp2.heap.size bo (fun _ => 0) (zK t o 0) (.slice none 0 0) (.slice none 0 0) (.slice none 0 0)) := Lib.hid (by
              obtain ⟨⟨p0, p1, p2, p3⟩, p4⟩ := HO0.out wp2 HCP.out
              have e : w.heap.size + 2 = bo := by have := HBO.out; omega
              rw [e] at p0 p1 p2 p3
              have p4 : ∀ j, wp2.frozen? ⟨bo, j, none⟩ = false := fun j => by rw [← e]; exact p4 j
              exact ⟨.nil _ _ _ _ _, .nil _ _ _ _ _, .nil _ _ _ _ _, p0, p1, p2, p3, p4, by have := HB0.out; omega⟩)
            have HCLEN := Lib.hid HM.out.cl
            clear HNUM HOR HC hio HM2 HT2 HTB2
            go_wp2
            go_loopw [14, 15] (fun v q wr => ∃ (k : Nat) (τ : Nat → Nat) (vr vk : Value), k ≤ t.r.length ∧ q = .int .i64 k ∧ Ph2 wr wp2.heap.size bo τ (zK t o k) v vr vk ∧ Chg (fun k => k = bo ∨ wp2.heap.size ≤ k) wp2 wr) (fun _ q _ => t.r.length - (intOf q).toNat)
            case atStart => exact ⟨0, _, _, _, by omega, rfl, HPH.out, Chg.refl _ _⟩
            case round =>
              clear HPH
              obtain ⟨k, τ, vr, vk, hk, rfl, hph, hc⟩ := hrel
              have hfc := zK_facts HCLEN.out o k hk
              have hcls := zK_cls HCLEN.out o k hk
              obtain ⟨z, hz⟩ : ∃ z, zK t o k = z := ⟨_, rfl⟩
              rw [hz] at hph hfc hcls
              have HZ := Lib.hid hz
              clear hz
              obtain ⟨cols, R, C⟩ := z
              simp only at hfc hcls
              obtain ⟨hCR, hcl1, hrl1, hcol⟩ := hfc
              obtain ⟨vca, vcc, rfl, hvcc⟩ := hph.cols.shape
              obtain ⟨ar, cr, rfl, hcr⟩ := hph.r.shape
              obtain ⟨ak, ck, rfl, hck⟩ := hph.k.shape
              simp only at hph hvcc hcr hck
              have HPH := Lib.hid hph
              have HC := Lib.hid hc
              have HCLS := Lib.hid hcls
              have HCOL := Lib.hid hcol
              have HLEN : Hid (R.length ≤ 1000000000) := Lib.hid (by omega)
              have HLEN2 : Hid (C.length ≤ 1000000000) := Lib.hid (by omega)
              have HLEN3 : Hid (cols.length ≤ 1000000000) := Lib.hid (by omega)
              have HCRH := Lib.hid hCR
              clear hph hc hcls hcol hCR
              obtain ⟨q0, q1, q2, q3⟩ := HT3.out wr HC.out
              by_cases hkl : k < t.r.length
              · have b2 : k < t.r.length := hkl
                obtain ⟨x, y, gr, or, hrx, hra, r0, r1, hx32, hy32, -, -⟩ := (HTB3.out wr HC.out).r.getR hkl
                obtain ⟨c, gc, oc, hcx, hca, c0, -, -, -, -⟩ := (HTB3.out wr HC.out).c.getI (k := k) (by have := HCLEN.out; omega)
                subst hra hca
                obtain ⟨cc2, rfl⟩ : ∃ c' : Nat, c = c' := ⟨c.toNat, by have := (HM.out.cb c (List.mem_of_getElem? hcx)).1; omega⟩
                have hcc := col_lt HM.out (List.mem_of_getElem? hcx)
                rw [Int.toNat_natCast] at hcc
                have HRK := Lib.hid (show _ ∧ _ from ⟨hrx, hcx⟩)
                have HRL0 := Lib.hid (show _ ∧ _ ∧ _ from ⟨r0, r1, c0⟩)
                have HRY : Hid (∀ a ∈ [(x, y)], rngE.ok a) := Lib.hid (fun a ha => by rw [List.mem_singleton] at ha; subst ha; exact ⟨hx32, hy32⟩)
                have hkc : k < t.c.length := by have := HCLEN.out; omega
                clear hrx hcx r0 r1 c0
                obtain ⟨wq, hwq⟩ : ∃ x, x = wr := ⟨_, rfl⟩
                rw [← hwq] at HPH HC HRL0 q0 q1 q2 q3 ⊢
                clear hwq
                go_wp2
                clear q0 q1 q2 q3
                go_loopw [16, 17, 18] (fun v b q wr => ∃ (j : Nat), j ≤ o.length ∧ q = .int .i64 j ∧ b = .bool (!negB ((colT t o (cc2 : Int)).take j)) ∧ intE.Own wr wq.heap.size v ((colT t o (cc2 : Int)).take j) ∧ Chg (fun _ => False) wq wr) (fun _ _ q _ => o.length - (intOf q).toNat)
                case atStart => exact ⟨0, by omega, rfl, rfl, .nil _ _, Chg.refl _ _⟩
                case round =>
                  obtain ⟨j, hj, rfl, rfl, hown, hc⟩ := hrel
                  obtain ⟨vla, vlc, hv, hvlc, -⟩ := hown.clip
                  have hjl0 : ((colT t o (cc2 : Int)).take j).length = j := by rw [List.length_take, colT_len]; omega
                  rw [hjl0] at hv hvlc
                  subst hv
                  have HOWN := Lib.hid hown
                  have HCQ := Lib.hid hc
                  have HCW := Lib.hid (HC.out.trans hc.any)
                  have HJL := Lib.hid hjl0
                  clear hown hc hjl0
                  by_cases hjl : j < o.length
                  · have b3 : j < o.length := hjl
                    as_aux_lemma =>
                      -- @dev{
                      obtain ⟨s, hs⟩ : ∃ s, o[j]? = some s := ⟨_, List.getElem?_eq_getElem hjl⟩
                      have hsl := HORD.out.lt s (List.mem_of_getElem? hs)
                      obtain ⟨go, oo, hoa, c1⟩ : ∃ go oo, va = some ⟨go, oo, none⟩ ∧ wr.cell? ⟨go, oo + j, none⟩ = some (.int .i64 (s : Int)) := by
                        obtain ⟨x, g, o', hx, ha, hcell, -⟩ := (HO3.out wr HCW.out).getI (k := j) (by rw [natsI_len]; exact hjl)
                        rw [natsI_get hs] at hx
                        obtain rfl := Option.some.inj hx
                        exact ⟨g, o', ha, hcell⟩
                      subst hoa
                      have hfnd := HCL.out j s hjl hs (cc2 : Int) (List.mem_of_getElem? HRK.out.2)
                      rw [Int.toNat_natCast] at hfnd
                      have hdl := goN_le HM.out s cc2
                      have HTK : Hid ((colT t o (cc2 : Int)).take (j + 1) = (colT t o (cc2 : Int)).take j ++ [entT t o (goN t s cc2)]) := Lib.hid (by rw [colT_take hs, Int.toNat_natCast])
                      obtain ⟨d, hd⟩ : ∃ d, goN t s cc2 = d := ⟨_, rfl⟩
                      rw [hd] at hdl hfnd HTK
                      have HD := Lib.hid hd
                      have HFND := Lib.hid hfnd
                      have HCC := Lib.hid (show _ ∧ _ from ⟨HCQ.out.cellS HRL0.out.2.2 (fun h => h), c1⟩)
                      clear hs c1 hd hfnd
                      obtain ⟨q0, q1, q2, q3⟩ := HT3.out wr HCW.out
                      go_upto_region 37 with (fail)
                      clear q0 q1 q2 q3
                      refine wp_region_same (fun w' => Chg (fun _ => False) wr w') (by kernel_rfl) (by kernel_rfl) ?_ ?_
                      · exact (Chg.refl _ _).drew
                      (refine wpC_read rfl (fun _ _ _ h => h) (fun K hK => ?_); apply Exists.intro; refine ⟨fun _ w' _ hC => ?_, ?_⟩; ((obtain ⟨q0, q1, q2, q3⟩ := HT3.out w' (HCW.out.trans hC.any); have c0 := hC.cellS HCC.out.1 (fun h => h); have c1 := hC.cellS HCC.out.2 (fun h => h)); go_simp; try with_reducible rfl); (try go_simp); refine hK _ ?_; clear hK K); (refine wpC_read rfl (fun _ _ _ h => h) (fun K hK => ?_); apply Exists.intro; refine ⟨fun _ w' _ hC => ?_, ?_⟩; ((skip); go_simp; try with_reducible rfl); (try go_simp); refine hK _ ?_; clear hK K); (refine wpC_read rfl (fun _ _ _ h => h) (fun K hK => ?_); apply Exists.intro; refine ⟨fun _ w' _ hC => ?_, ?_⟩; ((skip); go_simp; try with_reducible rfl); (try go_simp); refine hK _ ?_; clear hK K); (refine wpC_read rfl (fun _ _ _ h => h) (fun K hK => ?_); apply Exists.intro; refine ⟨fun _ w' _ hC => ?_, ?_⟩; ((obtain ⟨q0, q1, q2, q3⟩ := HT3.out w' (HCW.out.trans hC.any); have c0 := hC.cellS HCC.out.1 (fun h => h); have c1 := hC.cellS HCC.out.2 (fun h => h)); go_simp; try with_reducible rfl); (try go_simp); refine hK _ ?_; clear hK K); (refine wpC_read rfl (fun _ _ _ h => h) (fun K hK => ?_); apply Exists.intro; refine ⟨fun _ w' _ hC => ?_, ?_⟩; ((obtain ⟨q0, q1, q2, q3⟩ := HT3.out w' (HCW.out.trans hC.any); have c0 := hC.cellS HCC.out.1 (fun h => h); have c1 := hC.cellS HCC.out.2 (fun h => h)); go_simp; try with_reducible rfl); (try go_simp); refine hK _ ?_; clear hK K); (refine wpC_read rfl (fun _ _ _ h => h) (fun K hK => ?_); apply Exists.intro; refine ⟨fun _ w' _ hC => ?_, ?_⟩; ((skip); go_simp; try with_reducible rfl); (try go_simp); refine hK _ ?_; clear hK K); (refine wpC_read rfl (fun _ _ _ h => h) (fun K hK => ?_); apply Exists.intro; refine ⟨fun _ w' _ hC => ?_, ?_⟩; ((obtain ⟨q0, q1, q2, q3⟩ := HT3.out w' (HCW.out.trans hC.any); have c0 := hC.cellS HCC.out.1 (fun h => h); have c1 := hC.cellS HCC.out.2 (fun h => h)); go_simp; try with_reducible rfl); (try go_simp); refine hK _ ?_; clear hK K); (refine wpC_read rfl (fun _ _ _ h => h) (fun K hK => ?_); apply Exists.intro; refine ⟨fun _ w' _ hC => ?_, ?_⟩; ((skip); go_simp; try with_reducible rfl); (try go_simp); refine hK _ ?_; clear hK K); (refine wpC_read rfl (fun _ _ _ h => h) (fun K hK => ?_); apply Exists.intro; refine ⟨fun _ w' _ hC => ?_, ?_⟩; ((obtain ⟨q0, q1, q2, q3⟩ := HT3.out w' (HCW.out.trans hC.any); have c0 := hC.cellS HCC.out.1 (fun h => h); have c1 := hC.cellS HCC.out.2 (fun h => h)); go_simp; try with_reducible rfl); (try go_simp); refine hK _ ?_; clear hK K); (refine wpC_read rfl (fun _ _ _ h => h) (fun K hK => ?_); apply Exists.intro; refine ⟨fun _ w' _ hC => ?_, ?_⟩; ((obtain ⟨q0, q1, q2, q3⟩ := HT3.out w' (HCW.out.trans hC.any); have c0 := hC.cellS HCC.out.1 (fun h => h); have c1 := hC.cellS HCC.out.2 (fun h => h)); go_simp; try with_reducible rfl); (try go_simp); refine hK _ ?_; clear hK K)
                      refine wpC_call rfl (Value.int .i64 d )  40  ( #[.agg #[.slice (some ⟨gr, or, none⟩) t.r.length rc, .slice (some ⟨gc, oc, none⟩) t.c.length cc, .slice na t.n.length nc, .slice ea t.e.length ec], .int .i64 s, .int .i64 cc2]) (fun w' => by go_simp) (fun _ w' _ hC => ?_) (fun K hK => ?_)
                      · refine (refGoes_any t (some ⟨gr, or, none⟩, t.r.length, rc) (some ⟨gc, oc, none⟩, t.c.length, cc) (na, t.n.length, nc) (ea, t.e.length, ec) B s cc2 w' (HTB3.out w' (HCW.out.trans hC.any)) HM.out (by omega) hcc).mono ?_
                        rintro e wz ⟨rfl, hc⟩
                        exact ⟨by rw [HD.out], hC.trans hc⟩
                      ((try go_simp); refine hK _ ?_; clear hK K)
                      (refine wpC_read rfl (fun _ _ _ h => h) (fun K hK => ?_); apply Exists.intro; refine ⟨fun _ w' _ hC => ?_, ?_⟩; ((skip); go_simp; try with_reducible rfl); (try go_simp); refine hK _ ?_; clear hK K)
                      refine wpC_nil ?_
                      intro wx hC2
                      have HCX := Lib.hid (HCW.out.trans hC2.any)
                      have HCQX := Lib.hid (HCQ.out.trans hC2)
                      obtain ⟨n0, -, f0, f1⟩ := (HN3.out wx HCX.out).get (j := d) (by omega)
                      obtain ⟨gm, gmr, hgm, hcell, -, -, -, hgc⟩ := (HM3.out wx HCX.out).get (i := d) (by omega)
                      subst hgm
                      have m0' := hgc t.n.length (by omega)
                      have dn1 : (d : Int) < (t.n.length : Int) + 1 := by omega
                      have dn2 : (t.n.length : Int) < (t.n.length : Int) + 1 := by omega
                      have HOWX := Lib.hid (HOWN.out.chg hC2 (fun _ _ _ h => h))
                      have HSX : Hid (wq.heap.size ≤ wx.heap.size) := Lib.hid HCQX.out.size
                      clear hgc hC2 HOWN HCC
                      rcases entT_cases HFND.out with ⟨hdn, hent⟩ | ⟨ke, se, hdn, hent, -, -⟩
                      · rw [hdn] at m0'
                        have HE : Hid ((colT t o (cc2 : Int)).take (j + 1) = (colT t o (cc2 : Int)).take j ++ [-1]) := Lib.hid (by rw [HTK.out, hent])
                        have HNB : Hid (negB ((colT t o (cc2 : Int)).take (j + 1)) = negB ((colT t o (cc2 : Int)).take j)) := Lib.hid (by rw [HE.out, negB_app]; simp)
                        have HYB : Hid (∀ a ∈ [(-1 : Int)], intE.ok a) := Lib.hid (show ∀ a ∈ [(-1 : Int)], I.Byte a by decide)
                        clear hdn hent n0 f0 f1
                        go_wp2_with (at_builtin; refine Elt.wpList_append2 intE rfl _ _ 23 23 rfl rfl wq.heap.size (.slice vla j vlc) ((colT t o (cc2 : Int)).take j) [(-1 : Int)] (.slice (some ⟨wx.heap.size, 0, none⟩) 1 1) rfl rfl (HOWX.out.chg ((Chg.refl (fun _ => False) _).alloc _) (fun _ _ _ h => h)) (by have := HSX.out; simp; omega) (intE.srcLit (Y := [(-1 : Int)]) 1 HYB.out) HYB.out (by have := HJL.out; simp at this ⊢; omega) ?_; intro v' w5 HO5 HC5 HC5b)
                        have HOY : Hid (intE.Own w5 wq.heap.size v' ((colT t o (cc2 : Int)).take (j + 1))) := Lib.hid (by rw [HE.out]; exact HO5.out)
                        have HCY : Hid (Chg (fun _ => False) wq w5) := Lib.hid ((HCQX.out.any.trans (((Chg.refl (fun k => wq.heap.size ≤ k) _).alloc _).trans HC5.out)).fresh)
                        clear HO5 HC5 HC5b
                        go_roundw
                        case rel => exact ⟨j + 1, by omega, by go_num, by rw [HNB.out], HOY.out, HCY.out⟩
                        case measure => simp [intOf]; omega
                      · rw [hdn] at m0'
                        have hfd : f d = ke := by rw [HFN.out d hdl, ← hent]; unfold entT; rw [hdn, if_neg (by decide)]
                        rw [hfd] at n0 f0 f1
                        have HE : Hid ((colT t o (cc2 : Int)).take (j + 1) = (colT t o (cc2 : Int)).take j ++ [(ke : Int)]) := Lib.hid (by rw [HTK.out, hent])
                        have HNB : Hid (negB ((colT t o (cc2 : Int)).take (j + 1)) = false) := Lib.hid (by rw [HE.out, negB_app, decide_eq_false (by omega), Bool.and_false])
                        have HYB : Hid (∀ a ∈ [(ke : Int)], intE.ok a) := Lib.hid (fun a ha => by rw [List.mem_singleton] at ha; subst ha; exact ⟨f0, f1⟩)
                        clear hdn hent hfd
                        go_wp2_with (at_builtin; refine Elt.wpList_append2 intE rfl _ _ 23 23 rfl rfl wq.heap.size (.slice vla j vlc) ((colT t o (cc2 : Int)).take j) [(ke : Int)] (.slice (some ⟨wx.heap.size, 0, none⟩) 1 1) rfl rfl (HOWX.out.chg ((Chg.refl (fun _ => False) _).alloc _) (fun _ _ _ h => h)) (by have := HSX.out; simp; omega) (intE.srcLit (Y := [(ke : Int)]) 1 HYB.out) HYB.out (by have := HJL.out; simp at this ⊢; omega) ?_; intro v' w5 HO5 HC5 HC5b)
                        have HOY : Hid (intE.Own w5 wq.heap.size v' ((colT t o (cc2 : Int)).take (j + 1))) := Lib.hid (by rw [HE.out]; exact HO5.out)
                        have HCY : Hid (Chg (fun _ => False) wq w5) := Lib.hid ((HCQX.out.any.trans (((Chg.refl (fun k => wq.heap.size ≤ k) _).alloc _).trans HC5.out)).fresh)
                        clear HO5 HC5 HC5b
                        go_roundw
                        case rel => exact ⟨j + 1, by omega, by go_num, by rw [HNB.out]; rfl, HOY.out, HCY.out⟩
                        case measure => simp [intOf]; omega
                      -- @dev}
                  · obtain rfl : j = o.length := by omega
                    have b3 : ¬ o.length < o.length := by omega
                    have HTA : Hid ((colT t o (cc2 : Int)).take o.length = colT t o (cc2 : Int)) := Lib.hid (by rw [List.take_of_length_le (by rw [colT_len]; omega)])
                    rw [HTA.out] at HOWN ⊢
                    cases hneg : negB (colT t o (cc2 : Int)) with
                    | true =>
                      have HZN : Hid (zK t o (k + 1) = (cols, R, C)) := Lib.hid (by rw [zK_step HRK.out.1 HRK.out.2, HZ.out]; unfold foldCol; rw [if_pos hneg])
                      have HPN := HPH.out.same HCQ.out
                      rw [← HZN.out] at HPN
                      have HPN := Lib.hid HPN
                      clear hneg
                      simp only [Bool.not_true]
                      go_wp2
                      go_roundw
                      case rel => exact ⟨k + 1, τ, _, _, by omega, by go_num, HPN.out, HCW.out⟩
                      case measure => simp [intOf]; omega
                    | false =>
                      have HNEG := Lib.hid hneg
                      clear hneg
                      simp only [Bool.not_false]
                      obtain ⟨wv, hwv⟩ : ∃ x, x = wr := ⟨_, rfl⟩
                      rw [← hwv] at HCQ HCW HOWN ⊢
                      clear hwv
                      have HPV := Lib.hid (HPH.out.same HCQ.out)
                      have hCLL : (colT t o (cc2 : Int)).length = o.length := colT_len _ _ _
                      have HCIN : Hid (∀ wx, Chg (fun _ => False) wv wx → intE.In wx 0 (vla, o.length, vlc) (colT t o (cc2 : Int))) := Lib.hid (fun wx hx => ((HOWN.out.in' (c' := vlc) hvlc).same hx).lower (Nat.zero_le _))
                      have HCLL := Lib.hid hCLL
                      clear hCLL
                      go_wp2
                      go_loopw [21] (fun q wr => ∃ (m : Nat), m ≤ cols.length ∧ q = .int .i64 m ∧ (∀ (i : Nat) l, i < m → cols[i]? = some l → (l == colT t o (cc2 : Int)) = false) ∧ Chg (fun _ => False) wv wr) (fun q _ => cols.length - (intOf q).toNat)
                      case atStart => exact ⟨0, by omega, rfl, fun i l h => absurd h (Nat.not_lt_zero _), Chg.refl _ _⟩
                      case round =>
                        obtain ⟨m, hm, rfl, hmb, hc⟩ := hrel
                        have HMB := Lib.hid hmb
                        have HCV := Lib.hid hc
                        clear hmb hc
                        by_cases hml : m < cols.length
                        · have b4 : decide ((m : Int) < (cols.length : Int)) = true := by simp; omega
                          obtain ⟨l, gl, ol, la, lc, hl, hla, n0, hin, -, -⟩ := ((HPV.out.cols.lists).same HCV.out).getIn hml
                          subst hla
                          have hll := HCOL.out l (List.mem_of_getElem? hl)
                          have HL := Lib.hid (show _ ∧ _ from ⟨hl, hll⟩)
                          have hlk := like_any l (colT t o (cc2 : Int)) la vla lc vlc wp2.heap.size 0 wr hin (by have := HCIN.out wr HCV.out; rw [← HCLL.out] at this; exact this) (by rw [hll, HCLL.out]) (by rw [hll]; omega)
                          rw [HCLL.out] at hlk
                          have HLK := Lib.hid hlk
                          clear hl hin hll hlk
                          go_wp2_with fail
                          refine HLK.out.mono ?_
                          rintro e wx ⟨rfl, hc⟩
                          have HCVX := Lib.hid (HCV.out.trans hc)
                          clear hc
                          cases hlc : decide (l = colT t o (cc2 : Int)) with
                          | false =>
                            have HMB2 : Hid (∀ (i : Nat) l, i < m + 1 → cols[i]? = some l → (l == colT t o (cc2 : Int)) = false) := Lib.hid (fun i l' hi hl' => by
                              by_cases e : i = m
                              · subst e
                                rw [HL.out.1] at hl'
                                obtain rfl := Option.some.inj hl'
                                simpa using hlc
                              · exact HMB.out i l' (by omega) hl')
                            clear hlc
                            go_wp2
                            go_roundw
                            case rel => exact ⟨m + 1, by omega, by go_num, HMB2.out, HCVX.out⟩
                            case measure => simp [intOf]; omega
                          | true =>
                            have HIDX : Hid (idxV (fun x => x == colT t o (cc2 : Int)) cols = m) := Lib.hid (idxV_found HL.out.1 (by simpa using hlc) (fun i y hi hy => HMB.out i y hi hy))
                            have HPX := Lib.hid (HPV.out.same HCVX.out)
                            have HCX := Lib.hid (HCW.out.trans HCVX.out.any)
                            have HRL := Lib.hid (show _ ∧ _ from ⟨(HCQ.out.trans HCVX.out).cellS HRL0.out.1 (fun h => h), (HCQ.out.trans HCVX.out).cellS HRL0.out.2.1 (fun h => h)⟩)
                            have HOB := Lib.hid (show _ ∧ _ from ⟨HPX.out.c0, HPX.out.c1⟩)
                            have HYC : Hid (∀ a ∈ [(m : Int)], intE.ok a) := Lib.hid (fun a ha => by rw [List.mem_singleton] at ha; subst ha; have := HLEN3.out; constructor <;> omega)
                            have b5 : ((m : Int) == (cols.length : Int)) = false := by simp; omega
                            have b6 : (m == cols.length) = false := by simp; omega
                            have hCR := HCRH.out
                            clear hlc HPH HPV HOWN HCL n0
                            as_aux_lemma =>
                              -- @dev{
                              by_cases hRe : R = []
                              · skip
                                have hR0 : R = [] := hRe
                                have hC0 : C = [] := by
                                  cases C with
                                  | nil => rfl
                                  | cons c C => rw [hR0] at hCR; simp at hCR
                                subst hR0 hC0
                                clear hRe hCR
                                simp only [List.length_nil] at HPX HOB
                                obtain ⟨o0, o1⟩ := HOB.out
                                go_upto_region 50 with (fail)
                                clear o0 o1
                                refine wp_region_same (fun w' => Chg (fun _ => False) wx w') (by kernel_rfl) (by kernel_rfl) ?_ ?_
                                · exact (Chg.refl _ _).drew
                                (refine wpC_read rfl (fun _ _ _ h => h) (fun K hK => ?_); apply Exists.intro; refine ⟨fun _ w' _ hC => ?_, ?_⟩; ((skip); go_simp; try with_reducible rfl); (try go_simp); refine hK _ ?_; clear hK K); (refine wpC_read rfl (fun _ _ _ h => h) (fun K hK => ?_); apply Exists.intro; refine ⟨fun _ w' _ hC => ?_, ?_⟩; ((skip); go_simp; try with_reducible rfl); (try go_simp); refine hK _ ?_; clear hK K); (refine wpC_read rfl (fun _ _ _ h => h) (fun K hK => ?_); apply Exists.intro; refine ⟨fun _ w' _ hC => ?_, ?_⟩; ((skip); go_simp; try with_reducible rfl); (try go_simp); refine hK _ ?_; clear hK K); (refine wpC_skip rfl (fun _ _ _ h => h) (fun K hK => ?_); (try go_simp); refine hK _ ?_; clear hK K); (refine wpC_skip rfl (fun _ _ _ h => h) (fun K hK => ?_); (try go_simp); refine hK _ ?_; clear hK K); (refine wpC_skip rfl (fun _ _ _ h => h) (fun K hK => ?_); (try go_simp); refine hK _ ?_; clear hK K); (refine wpC_skip rfl (fun _ _ _ h => h) (fun K hK => ?_); (try go_simp); refine hK _ ?_; clear hK K); (refine wpC_skip rfl (fun _ _ _ h => h) (fun K hK => ?_); (try go_simp); refine hK _ ?_; clear hK K); (refine wpC_skip rfl (fun _ _ _ h => h) (fun K hK => ?_); (try go_simp); refine hK _ ?_; clear hK K); (refine wpC_skip rfl (fun _ _ _ h => h) (fun K hK => ?_); (try go_simp); refine hK _ ?_; clear hK K); (refine wpC_read rfl (fun _ _ _ h => h) (fun K hK => ?_); apply Exists.intro; refine ⟨fun _ w' _ hC => ?_, ?_⟩; ((skip); go_simp; try with_reducible rfl); (try go_simp); refine hK _ ?_; clear hK K); (refine wpC_read rfl (fun _ _ _ h => h) (fun K hK => ?_); apply Exists.intro; refine ⟨fun _ w' _ hC => ?_, ?_⟩; ((skip); go_simp; try with_reducible rfl); (try go_simp); refine hK _ ?_; clear hK K); (refine wpC_skip rfl (fun _ _ _ h => h) (fun K hK => ?_); (try go_simp); refine hK _ ?_; clear hK K); (refine wpC_skip rfl (fun _ _ _ h => h) (fun K hK => ?_); (try go_simp); refine hK _ ?_; clear hK K); (refine wpC_skip rfl (fun _ _ _ h => h) (fun K hK => ?_); (try go_simp); refine hK _ ?_; clear hK K); (refine wpC_skip rfl (fun _ _ _ h => h) (fun K hK => ?_); (try go_simp); refine hK _ ?_; clear hK K); (refine wpC_skip rfl (fun _ _ _ h => h) (fun K hK => ?_); (try go_simp); refine hK _ ?_; clear hK K); (refine wpC_skip rfl (fun _ _ _ h => h) (fun K hK => ?_); (try go_simp); refine hK _ ?_; clear hK K); (refine wpC_skip rfl (fun _ _ _ h => h) (fun K hK => ?_); (try go_simp); refine hK _ ?_; clear hK K); (refine wpC_skip rfl (fun _ _ _ h => h) (fun K hK => ?_); (try go_simp); refine hK _ ?_; clear hK K); (refine wpC_skip rfl (fun _ _ _ h => h) (fun K hK => ?_); (try go_simp); refine hK _ ?_; clear hK K); (refine wpC_skip rfl (fun _ _ _ h => h) (fun K hK => ?_); (try go_simp); refine hK _ ?_; clear hK K); (refine wpC_skip rfl (fun _ _ _ h => h) (fun K hK => ?_); (try go_simp); refine hK _ ?_; clear hK K); (refine wpC_skip rfl (fun _ _ _ h => h) (fun K hK => ?_); (try go_simp); refine hK _ ?_; clear hK K); (refine wpC_skip rfl (fun _ _ _ h => h) (fun K hK => ?_); (try go_simp); refine hK _ ?_; clear hK K); (refine wpC_skip rfl (fun _ _ _ h => h) (fun K hK => ?_); (try go_simp); refine hK _ ?_; clear hK K); (refine wpC_skip rfl (fun _ _ _ h => h) (fun K hK => ?_); (try go_simp); refine hK _ ?_; clear hK K); (refine wpC_skip rfl (fun _ _ _ h => h) (fun K hK => ?_); (try go_simp); refine hK _ ?_; clear hK K); (refine wpC_read rfl (fun _ _ _ h => h) (fun K hK => ?_); apply Exists.intro; refine ⟨fun _ w' _ hC => ?_, ?_⟩; ((skip); go_simp; try with_reducible rfl); (try go_simp); refine hK _ ?_; clear hK K)
                                refine wpC_nil ?_
                                intro wy hCy
                                have HCY := Lib.hid hCy
                                clear hCy
                                have HPY := Lib.hid (HPX.out.same HCY.out)
                                have HCXY := Lib.hid (HCX.out.trans HCY.out.any)
                                have HRLY := Lib.hid (show _ ∧ _ from ⟨HCY.out.cellS HRL.out.1 (fun h => h), HCY.out.cellS HRL.out.2 (fun h => h)⟩)
                                have HOBY := Lib.hid (show _ ∧ _ from ⟨HCY.out.cellS HOB.out.1 (fun h => h), HCY.out.cellS HOB.out.2 (fun h => h)⟩)
                                have HBY : Hid (wp2.heap.size ≤ wy.heap.size ∧ bo < wy.heap.size) := Lib.hid (by have h1 := HCXY.out.size; have h2 := HPY.out.lt; exact ⟨h1, h2⟩)
                                go_upto_region 52 with (fail)
                                obtain ⟨wd, hwd⟩ : ∃ x, wy.drew = x := ⟨_, rfl⟩
                                have HDD : Hid (Chg (fun _ => False) wy wd) := Lib.hid (by rw [← hwd]; exact (Chg.refl _ _).drew)
                                have HPD := Lib.hid (HPY.out.same HDD.out)
                                refine wp_region_late (fun x => Chg (fun _ => False) wd x) (fun i => decide (8 ≤ i)) (by kernel_rfl) ?_
                                show wpAnyL _ _ _ _ _ _ 11 (Array.replicate 11 false) _ wy.drew
                                rw [hwd]
                                clear hwd
                                have HSS : Hid (Chg (fun _ => False) wd wd) := Lib.hid (Chg.refl _ _)
                                (refine late_read (i := 0) rfl (by kernel_rfl) (fun _ _ _ _ h => h) rfl HSS.out (fun K hK => ?_); apply Exists.intro; refine ⟨fun w' hC => ?_, ?_⟩; ((skip); go_simp; try with_reducible rfl); (try go_simp); refine hK _ ?_; clear hK K)
                                (refine late_read (i := 1) rfl (by kernel_rfl) (fun _ _ _ _ h => h) rfl HSS.out (fun K hK => ?_); apply Exists.intro; refine ⟨fun w' hC => ?_, ?_⟩; ((have o0 := (HDD.out.trans hC).cellS HOBY.out.1 (fun h => h)); go_simp; try with_reducible rfl); (try go_simp); refine hK _ ?_; clear hK K)
                                (refine late_read (i := 2) rfl (by kernel_rfl) (fun _ _ _ _ h => h) rfl HSS.out (fun K hK => ?_); apply Exists.intro; refine ⟨fun w' hC => ?_, ?_⟩; ((skip); go_simp; try with_reducible rfl); (try go_simp); refine hK _ ?_; clear hK K)
                                (refine late_read (i := 3) rfl (by kernel_rfl) (fun _ _ _ _ h => h) rfl HSS.out (fun K hK => ?_); apply Exists.intro; refine ⟨fun w' hC => ?_, ?_⟩; ((obtain ⟨q0, q1, q2, q3⟩ := HT3.out w' (HCXY.out.trans (HDD.out.trans hC).any)); go_simp; try with_reducible rfl); (try go_simp); refine hK _ ?_; clear hK K)
                                (refine late_read (i := 4) rfl (by kernel_rfl) (fun _ _ _ _ h => h) rfl HSS.out (fun K hK => ?_); apply Exists.intro; refine ⟨fun w' hC => ?_, ?_⟩; ((skip); go_simp; try with_reducible rfl); (try go_simp); refine hK _ ?_; clear hK K)
                                (refine late_read (i := 5) rfl (by kernel_rfl) (fun _ _ _ _ h => h) rfl HSS.out (fun K hK => ?_); apply Exists.intro; refine ⟨fun w' hC => ?_, ?_⟩; ((skip); go_simp; try with_reducible rfl); (try go_simp); refine hK _ ?_; clear hK K)
                                (refine late_read (i := 6) rfl (by kernel_rfl) (fun _ _ _ _ h => h) rfl HSS.out (fun K hK => ?_); apply Exists.intro; refine ⟨fun w' hC => ?_, ?_⟩; ((have r0 := (HDD.out.trans hC).cellS HRLY.out.1 (fun h => h); have r1 := (HDD.out.trans hC).cellS HRLY.out.2 (fun h => h)); go_simp; try with_reducible rfl); (try go_simp); refine hK _ ?_; clear hK K)
                                (refine late_turn (i := 7) (by kernel_rfl) rfl rfl (fun K hK => ?_); apply Exists.intro; apply Exists.intro; refine ⟨?_, ?_, ?_⟩; ((skip); go_simp; try first | with_reducible rfl | exact ⟨rfl, rfl⟩); (exact fun _ => (Chg.refl _ _).alloc _); (try go_simp); refine hK _ _ ?_; clear hK K)
                                obtain ⟨w6, hw6⟩ : ∃ W6, W6 = wd.alloc (.cells #[.int .i32 x, .int .i32 y] 54) := ⟨_, rfl⟩
                                have HC6 : Hid (Chg (fun _ => False) wd w6) := Lib.hid (by rw [hw6]; exact (Chg.refl _ _).alloc _)
                                have HSRC : Hid (Src Try.prog rngE.sz rngE.sl (.slice (some ⟨wd.heap.size, 0, none⟩) 1 1) 1 (rngE.encs [(x, y)]) w6) := Lib.hid (by rw [hw6]; exact rngE.srcLit (Y := [(x, y)]) 1 HRY.out)
                                have HP6 := Lib.hid (HPD.out.same HC6.out)
                                have HB6 : Hid (wp2.heap.size ≤ w6.heap.size) := Lib.hid (by have := HBY.out; have := (HDD.out.trans HC6.out).size; omega)
                                rw [← hw6]
                                clear hw6
                                refine late_append (i := 8) (by kernel_rfl) rfl rfl (.tmp 228) (.tmp 234) 22 22 rfl (.slice ar 0 cr) (.slice (some ⟨wd.heap.size, 0, none⟩) 1 1) rfl rfl (fun v' w1 => rngE.Own w1 wp2.heap.size v' (([] : List (Int × Int)) ++ [(x, y)]) ∧ Chg (fun k => (Value.slice ar 0 cr).ownBlock = some k) w6 w1 ∧ (v'.ownBlock = (Value.slice ar 0 cr).ownBlock ∨ v'.ownBlock = some w6.heap.size) ∧ ∃ a n c, v' = .slice a n c) ?_ ?_
                                · obtain ⟨v', w1, hrun, h1, h2, ⟨h3, h4⟩, -⟩ := HP6.out.r.own.append HB6.out 22 (.slice (some ⟨wd.heap.size, 0, none⟩) 1 1) [(x, y)] HSRC.out HRY.out (by have h1 := HLEN.out; first | (simp; done) | (simp at h1 ⊢; omega)) 22
                                  exact ⟨v', w1, hrun, (fun h => absurd h (by decide)), h1, h3, h4, h1.shape3⟩
                                rintro v' w1' - ⟨h1, h2, h3, va', vn', vc', rfl⟩ K hK
                                obtain ⟨⟨k1, k2⟩, hfin⟩ := HP6.out.rng h1 h2 h3
                                have HFIN := Lib.hid hfin
                                have HCF : Hid (Chg (fun k => k = bo ∨ wp2.heap.size ≤ k) wp2 (w1'.setCell ⟨bo, 0, none⟩ (.slice va' vn' vc'))) := Lib.hid ((HCXY.out.trans (HDD.out.trans HC6.out).any).trans ((h2.mono (fun k _ e => .inr (HP6.out.r.own.blk e).1)).trans ((setCellChg w1' bo 0 _).mono (fun k _ e => .inl e))))
                                clear h1 h2 h3 hfin
                                (try go_simp)
                                refine hK _ ?_
                                clear hK K
                                (refine late_turn (i := 9) (by kernel_rfl) rfl rfl (fun K hK => ?_); apply Exists.intro; apply Exists.intro; refine ⟨?_, ?_, ?_⟩; ((skip); go_simp; try first | with_reducible rfl | exact ⟨rfl, rfl⟩); (exact fun h => absurd h (by decide)); (try go_simp); refine hK _ _ ?_; clear hK K)
                                (refine late_store (i := 10) (by kernel_rfl) rfl rfl (fun K hK => ?_); apply Exists.intro; refine ⟨?_, (fun h => absurd h (by decide)), ?_⟩; ((skip); go_simp; try first | with_reducible rfl | exact ⟨rfl, rfl⟩); (try go_simp); refine hK _ _ ?_; clear hK K)
                                refine late_done (by kernel_rfl) ?_ _
                                clear k1 k2
                                obtain ⟨w7, hw7⟩ : ∃ x, x = w1'.setCell ⟨bo, 0, none⟩ (.slice va' vn' vc') := ⟨_, rfl⟩
                                rw [← hw7] at HFIN HCF ⊢
                                clear hw7
                                have o1 := HFIN.out.c1
                                have HB7 : Hid (wp2.heap.size ≤ w7.heap.size) := Lib.hid HCF.out.size
                                have HP8 := Lib.hid (HFIN.out.same ((Chg.refl (fun _ => False) w7).alloc (.cells #[.int .i64 (m : Int)] 3)))
                                have HA8 := Lib.hid (fun (v' : Value) (w' : World) (h1 : intE.Own w' wp2.heap.size v' (([] : List Int) ++ [((m : Int) : Int)])) h2 h3 => HP8.out.cls (vk' := v') h1 h2 h3)
                                go_wp2_with (at_builtin; refine Elt.wpList_append2 intE rfl _ _ 23 23 rfl rfl wp2.heap.size (.slice ak 0 ck) ([] : List Int) [((m : Int) : Int)] (.slice (some ⟨w7.heap.size, 0, none⟩) 1 1) rfl rfl HP8.out.k.own (by have := HB7.out; simp; omega) (intE.srcLit (Y := [((m : Int) : Int)]) 1 HYC.out) HYC.out (by have h1 := HLEN2.out; first | (simp; done) | (simp at h1 ⊢; omega)) ?_; intro v' w9 HO9 HC9 HC9b; obtain ⟨⟨k1, k2⟩, hfin⟩ := HA8.out v' w9 HO9.out HC9b.out.1 HC9b.out.2; obtain ⟨va9, vn9, vc9, hv9⟩ := HO9.out.shape3; subst hv9; have HFIN9 := Lib.hid hfin; clear hfin)
                                have HZN : Hid (zK t o (k + 1) = (cols, ([] : List (Int × Int)) ++ [(x, y)], ([] : List Int) ++ [((m : Int) : Int)])) := Lib.hid (by
                                  rw [zK_step HRK.out.1 HRK.out.2, HZ.out]
                                  unfold foldCol
                                  rw [if_neg (by rw [HNEG.out]; decide)]
                                  rw [if_neg (by rw [HIDX.out]; omega)]
                                  simp only [HIDX.out]
                                  unfold mrg
                                  rw [if_neg (by simp)])
                                have HF9 := Lib.hid (HFIN9.out.z HZN.out)
                                have HC99 : Hid (Chg (fun k => k = bo ∨ wp2.heap.size ≤ k) wp2 (w9.setCell ⟨bo, 1, none⟩ (.slice va9 vn9 vc9))) := Lib.hid ((HCF.out.trans ((Chg.refl _ _).alloc _)).trans ((HC9.out.mono (fun k _ e => .inr e)).trans ((setCellChg w9 bo 1 _).mono (fun k _ e => .inl e))))
                                clear k1 k2 HO9 HC9 HC9b HFIN HFIN9 HP8 HA8 HPD HP6 HPY o1
                                go_roundw
                                case rel => exact ⟨k + 1, _, _, _, by omega, by go_num, HF9.out, HC99.out⟩
                                case measure => simp [intOf]; omega
                              · skip
                                obtain ⟨R', p, rfl⟩ : ∃ R' p, R = R' ++ [p] := ⟨R.dropLast, R.getLast hRe, (List.dropLast_concat_getLast hRe).symm⟩
                                obtain ⟨C', dl, rfl⟩ : ∃ C' dl, C = C' ++ [dl] := by
                                  have hne : C ≠ [] := fun e => by rw [e] at hCR; simp at hCR
                                  exact ⟨C.dropLast, C.getLast hne, (List.dropLast_concat_getLast hne).symm⟩
                                have hCR2 : C'.length = R'.length := by simpa using hCR
                                have HCR := Lib.hid hCR2
                                obtain ⟨gR, hgR⟩ : ∃ gR, ar = some ⟨gR, 0, none⟩ := by
                                  obtain ⟨a', g', c', h1, h2, h3, h4⟩ := HPX.out.r.own.at'
                                  injection h1 with e1
                                  exact ⟨g', e1.trans (h4 (by simp)).1⟩
                                subst hgR
                                obtain ⟨gK, hgK⟩ : ∃ gK, ak = some ⟨gK, 0, none⟩ := by
                                  obtain ⟨a', g', c', h1, h2, h3, h4⟩ := HPX.out.k.own.at'
                                  injection h1 with e1
                                  exact ⟨g', e1.trans (h4 (by simp)).1⟩
                                subst hgK
                                have hpin := HPX.out.r.own.in' (c' := (R' ++ [p]).length) (Nat.le_refl _)
                                have hpok : okRng p := hpin.ok p (by simp)
                                have HLAST : Hid (wx.cell? ⟨gK, C'.length, none⟩ = some (.int .i64 dl) ∧ wx.cell? ⟨gR, C'.length * 2 + 1, none⟩ = some (.int .i32 p.2)) := Lib.hid (by
                                  refine ⟨?_, ?_⟩
                                  · obtain ⟨xx, g', o', hx, ha, hcell, -⟩ := (HPX.out.k.own.in' (c' := (C' ++ [dl]).length) (Nat.le_refl _)).getI (k := C'.length) (by simp)
                                    have hg0 : o' = 0 ∧ gK = g' := by
                                      injection ha with ha
                                      injection ha with e1 e2
                                      exact ⟨e2.symm, e1⟩
                                    obtain ⟨rfl, rfl⟩ := hg0
                                    simp at hx
                                    subst hx
                                    rw [Nat.zero_add] at hcell
                                    exact hcell
                                  · have := (HPX.out.high (R' := R') (p := p) rfl (x := p.2) hpok).1.1
                                    rw [hCR2]
                                    exact this)
                                obtain ⟨⟨pl1, pl2⟩, ph1, ph2⟩ := hpok
                                have HPL : Hid ((R' ++ [p]).length = C'.length + 1 ∧ (C' ++ [dl]).length = C'.length + 1) := Lib.hid ⟨by simp [hCR2], by simp⟩
                                rw [HPL.out.1, HPL.out.2] at HPX
                                rw [HPL.out.1, HPL.out.2] at HOB
                                have l3 : C'.length ≤ 1000000000 := by have h1 := HLEN2.out; simp at h1; omega
                                have w1 : IntKind.i64.wrap p.2 = p.2 := by rw [IntKind.wrap_i64]; omega
                                have w2 : IntKind.i64.wrap (p.2 + 1) = p.2 + 1 := by rw [IntKind.wrap_i64]; omega
                                have w3 : IntKind.i64.wrap x = x := by rw [IntKind.wrap_i64]; omega
                                have l4 : (C'.length : Int) < (C'.length : Int) + 1 := by omega
                                clear hRe hCR hpin hCR2
                                by_cases hdc : dl = (m : Int)
                                · subst hdc
                                  by_cases hlow : p.2 + 1 = x
                                  · have d51 : (p.2 + 1 == x) = true := by simpa using hlow
                                    have HLOW := Lib.hid hlow
                                    clear hlow
                                    obtain ⟨o0, o1⟩ := HOB.out
                                    go_upto_region 50 with (fail)
                                    clear o0 o1
                                    refine wp_region_same (fun w' => Chg (fun _ => False) wx w') (by kernel_rfl) (by kernel_rfl) ?_ ?_
                                    · exact (Chg.refl _ _).drew
                                    (refine wpC_read rfl (fun _ _ _ h => h) (fun K hK => ?_); apply Exists.intro; refine ⟨fun _ w' _ hC => ?_, ?_⟩; ((skip); go_simp; try with_reducible rfl); (try go_simp); refine hK _ ?_; clear hK K); (refine wpC_read rfl (fun _ _ _ h => h) (fun K hK => ?_); apply Exists.intro; refine ⟨fun _ w' _ hC => ?_, ?_⟩; ((skip); go_simp; try with_reducible rfl); (try go_simp); refine hK _ ?_; clear hK K); (refine wpC_read rfl (fun _ _ _ h => h) (fun K hK => ?_); apply Exists.intro; refine ⟨fun _ w' _ hC => ?_, ?_⟩; ((skip); go_simp; try with_reducible rfl); (try go_simp); refine hK _ ?_; clear hK K); (refine wpC_read rfl (fun _ _ _ h => h) (fun K hK => ?_); apply Exists.intro; refine ⟨fun _ w' _ hC => ?_, ?_⟩; ((skip); go_simp; try with_reducible rfl); (try go_simp); refine hK _ ?_; clear hK K); (refine wpC_read rfl (fun _ _ _ h => h) (fun K hK => ?_); apply Exists.intro; refine ⟨fun _ w' _ hC => ?_, ?_⟩; ((obtain ⟨q0, q1, q2, q3⟩ := HT3.out w' (HCX.out.trans hC.any); have o0 := hC.cellS HOB.out.1 (fun h => h); have o1 := hC.cellS HOB.out.2 (fun h => h); have r0 := hC.cellS HRL.out.1 (fun h => h); have r1 := hC.cellS HRL.out.2 (fun h => h); have e1 := hC.cellS HLAST.out.1 (fun h => h); have e2 := hC.cellS HLAST.out.2 (fun h => h)); go_simp; try with_reducible rfl); (try go_simp); refine hK _ ?_; clear hK K); (refine wpC_read rfl (fun _ _ _ h => h) (fun K hK => ?_); apply Exists.intro; refine ⟨fun _ w' _ hC => ?_, ?_⟩; ((skip); go_simp; try with_reducible rfl); (try go_simp); refine hK _ ?_; clear hK K); (refine wpC_read rfl (fun _ _ _ h => h) (fun K hK => ?_); apply Exists.intro; refine ⟨fun _ w' _ hC => ?_, ?_⟩; ((skip); go_simp; try with_reducible rfl); (try go_simp); refine hK _ ?_; clear hK K); (refine wpC_read rfl (fun _ _ _ h => h) (fun K hK => ?_); apply Exists.intro; refine ⟨fun _ w' _ hC => ?_, ?_⟩; ((obtain ⟨q0, q1, q2, q3⟩ := HT3.out w' (HCX.out.trans hC.any); have o0 := hC.cellS HOB.out.1 (fun h => h); have o1 := hC.cellS HOB.out.2 (fun h => h); have r0 := hC.cellS HRL.out.1 (fun h => h); have r1 := hC.cellS HRL.out.2 (fun h => h); have e1 := hC.cellS HLAST.out.1 (fun h => h); have e2 := hC.cellS HLAST.out.2 (fun h => h)); go_simp; try with_reducible rfl); (try go_simp); refine hK _ ?_; clear hK K); (refine wpC_read rfl (fun _ _ _ h => h) (fun K hK => ?_); apply Exists.intro; refine ⟨fun _ w' _ hC => ?_, ?_⟩; ((skip); go_simp; try with_reducible rfl); (try go_simp); refine hK _ ?_; clear hK K); (refine wpC_read rfl (fun _ _ _ h => h) (fun K hK => ?_); apply Exists.intro; refine ⟨fun _ w' _ hC => ?_, ?_⟩; ((skip); go_simp; try with_reducible rfl); (try go_simp); refine hK _ ?_; clear hK K); (refine wpC_read rfl (fun _ _ _ h => h) (fun K hK => ?_); apply Exists.intro; refine ⟨fun _ w' _ hC => ?_, ?_⟩; ((skip); go_simp; try with_reducible rfl); (try go_simp); refine hK _ ?_; clear hK K); (refine wpC_read rfl (fun _ _ _ h => h) (fun K hK => ?_); apply Exists.intro; refine ⟨fun _ w' _ hC => ?_, ?_⟩; ((skip); go_simp; try with_reducible rfl); (try go_simp); refine hK _ ?_; clear hK K); (refine wpC_read rfl (fun _ _ _ h => h) (fun K hK => ?_); apply Exists.intro; refine ⟨fun _ w' _ hC => ?_, ?_⟩; ((skip); go_simp; try with_reducible rfl); (try go_simp); refine hK _ ?_; clear hK K); (refine wpC_read rfl (fun _ _ _ h => h) (fun K hK => ?_); apply Exists.intro; refine ⟨fun _ w' _ hC => ?_, ?_⟩; ((obtain ⟨q0, q1, q2, q3⟩ := HT3.out w' (HCX.out.trans hC.any); have o0 := hC.cellS HOB.out.1 (fun h => h); have o1 := hC.cellS HOB.out.2 (fun h => h); have r0 := hC.cellS HRL.out.1 (fun h => h); have r1 := hC.cellS HRL.out.2 (fun h => h); have e1 := hC.cellS HLAST.out.1 (fun h => h); have e2 := hC.cellS HLAST.out.2 (fun h => h)); go_simp; try with_reducible rfl); (try go_simp); refine hK _ ?_; clear hK K); (refine wpC_read rfl (fun _ _ _ h => h) (fun K hK => ?_); apply Exists.intro; refine ⟨fun _ w' _ hC => ?_, ?_⟩; ((skip); go_simp; try with_reducible rfl); (try go_simp); refine hK _ ?_; clear hK K); (refine wpC_read rfl (fun _ _ _ h => h) (fun K hK => ?_); apply Exists.intro; refine ⟨fun _ w' _ hC => ?_, ?_⟩; ((skip); go_simp; try with_reducible rfl); (try go_simp); refine hK _ ?_; clear hK K); (refine wpC_read rfl (fun _ _ _ h => h) (fun K hK => ?_); apply Exists.intro; refine ⟨fun _ w' _ hC => ?_, ?_⟩; ((skip); go_simp; try with_reducible rfl); (try go_simp); refine hK _ ?_; clear hK K); (refine wpC_read rfl (fun _ _ _ h => h) (fun K hK => ?_); apply Exists.intro; refine ⟨fun _ w' _ hC => ?_, ?_⟩; ((obtain ⟨q0, q1, q2, q3⟩ := HT3.out w' (HCX.out.trans hC.any); have o0 := hC.cellS HOB.out.1 (fun h => h); have o1 := hC.cellS HOB.out.2 (fun h => h); have r0 := hC.cellS HRL.out.1 (fun h => h); have r1 := hC.cellS HRL.out.2 (fun h => h); have e1 := hC.cellS HLAST.out.1 (fun h => h); have e2 := hC.cellS HLAST.out.2 (fun h => h)); go_simp; try with_reducible rfl); (try go_simp); refine hK _ ?_; clear hK K); (refine wpC_read rfl (fun _ _ _ h => h) (fun K hK => ?_); apply Exists.intro; refine ⟨fun _ w' _ hC => ?_, ?_⟩; ((skip); go_simp; try with_reducible rfl); (try go_simp); refine hK _ ?_; clear hK K); (refine wpC_read rfl (fun _ _ _ h => h) (fun K hK => ?_); apply Exists.intro; refine ⟨fun _ w' _ hC => ?_, ?_⟩; ((skip); go_simp; try with_reducible rfl); (try go_simp); refine hK _ ?_; clear hK K); (refine wpC_read rfl (fun _ _ _ h => h) (fun K hK => ?_); apply Exists.intro; refine ⟨fun _ w' _ hC => ?_, ?_⟩; ((skip); go_simp; try with_reducible rfl); (try go_simp); refine hK _ ?_; clear hK K); (refine wpC_read rfl (fun _ _ _ h => h) (fun K hK => ?_); apply Exists.intro; refine ⟨fun _ w' _ hC => ?_, ?_⟩; ((obtain ⟨q0, q1, q2, q3⟩ := HT3.out w' (HCX.out.trans hC.any); have o0 := hC.cellS HOB.out.1 (fun h => h); have o1 := hC.cellS HOB.out.2 (fun h => h); have r0 := hC.cellS HRL.out.1 (fun h => h); have r1 := hC.cellS HRL.out.2 (fun h => h); have e1 := hC.cellS HLAST.out.1 (fun h => h); have e2 := hC.cellS HLAST.out.2 (fun h => h)); go_simp; try with_reducible rfl); (try go_simp); refine hK _ ?_; clear hK K); (refine wpC_read rfl (fun _ _ _ h => h) (fun K hK => ?_); apply Exists.intro; refine ⟨fun _ w' _ hC => ?_, ?_⟩; ((skip); go_simp; try with_reducible rfl); (try go_simp); refine hK _ ?_; clear hK K); (refine wpC_read rfl (fun _ _ _ h => h) (fun K hK => ?_); apply Exists.intro; refine ⟨fun _ w' _ hC => ?_, ?_⟩; ((skip); go_simp; try with_reducible rfl); (try go_simp); refine hK _ ?_; clear hK K); (refine wpC_read rfl (fun _ _ _ h => h) (fun K hK => ?_); apply Exists.intro; refine ⟨fun _ w' _ hC => ?_, ?_⟩; ((skip); go_simp; try with_reducible rfl); (try go_simp); refine hK _ ?_; clear hK K); (refine wpC_read rfl (fun _ _ _ h => h) (fun K hK => ?_); apply Exists.intro; refine ⟨fun _ w' _ hC => ?_, ?_⟩; ((obtain ⟨q0, q1, q2, q3⟩ := HT3.out w' (HCX.out.trans hC.any); have o0 := hC.cellS HOB.out.1 (fun h => h); have o1 := hC.cellS HOB.out.2 (fun h => h); have r0 := hC.cellS HRL.out.1 (fun h => h); have r1 := hC.cellS HRL.out.2 (fun h => h); have e1 := hC.cellS HLAST.out.1 (fun h => h); have e2 := hC.cellS HLAST.out.2 (fun h => h)); go_simp; try with_reducible rfl); (try go_simp); refine hK _ ?_; clear hK K); (refine wpC_read rfl (fun _ _ _ h => h) (fun K hK => ?_); apply Exists.intro; refine ⟨fun _ w' _ hC => ?_, ?_⟩; ((skip); go_simp; try with_reducible rfl); (try go_simp); refine hK _ ?_; clear hK K); (refine wpC_read rfl (fun _ _ _ h => h) (fun K hK => ?_); apply Exists.intro; refine ⟨fun _ w' _ hC => ?_, ?_⟩; ((skip); go_simp; try with_reducible rfl); (try go_simp); refine hK _ ?_; clear hK K); (refine wpC_read rfl (fun _ _ _ h => h) (fun K hK => ?_); apply Exists.intro; refine ⟨fun _ w' _ hC => ?_, ?_⟩; ((skip); go_simp; try with_reducible rfl); (try go_simp); refine hK _ ?_; clear hK K)
                                    refine wpC_nil ?_
                                    intro wy hCy
                                    have HCY := Lib.hid hCy
                                    clear hCy
                                    have HPY := Lib.hid (HPX.out.same HCY.out)
                                    have HCXY := Lib.hid (HCX.out.trans HCY.out.any)
                                    have HRLY := Lib.hid (show _ ∧ _ from ⟨HCY.out.cellS HRL.out.1 (fun h => h), HCY.out.cellS HRL.out.2 (fun h => h)⟩)
                                    have HOBY := Lib.hid (HCY.out.cellS HOB.out.1 (fun h => h))
                                    have hxy : okRng (p.1, y) := ⟨⟨pl1, pl2⟩, (HRY.out (x, y) (by simp)).2⟩
                                    have HHI := Lib.hid (fun (wq : World) (hq : Chg (fun _ => False) wy wq) => (HPY.out.same hq).high (R' := R') (p := p) rfl hxy)
                                    rw [← HCR.out] at HHI
                                    have HZN : Hid (zK t o (k + 1) = (cols, R' ++ [(p.1, y)], C' ++ [(m : Int)])) := Lib.hid (by
                                      rw [zK_step HRK.out.1 HRK.out.2, HZ.out]
                                      unfold foldCol
                                      rw [if_neg (by rw [HNEG.out]; decide)]
                                      rw [if_neg (by rw [HIDX.out]; omega)]
                                      simp only [HIDX.out]
                                      unfold mrg
                                      rw [if_pos (by simp; exact HLOW.out)]
                                      simp)
                                    clear hxy
                                    go_upto_region 51 with (fail)
                                    obtain ⟨wd, hwd⟩ : ∃ W, wy.drew = W := ⟨_, rfl⟩
                                    have HDD : Hid (Chg (fun _ => False) wy wd) := Lib.hid (by rw [← hwd]; exact (Chg.refl _ _).drew)
                                    refine wp_region_late (fun x => Chg (fun _ => False) wd x) (fun i => decide (11 ≤ i)) (by kernel_rfl) ?_
                                    show wpAnyL _ _ _ _ _ _ 12 (Array.replicate 12 false) _ wy.drew
                                    rw [hwd]
                                    clear hwd
                                    have HSS : Hid (Chg (fun _ => False) wd wd) := Lib.hid (Chg.refl _ _)
                                    (refine late_read (i := 0) rfl (by kernel_rfl) (fun _ _ _ _ h => h) rfl HSS.out (fun K hK => ?_); apply Exists.intro; refine ⟨fun w' hC => ?_, ?_⟩; ((skip); go_simp; try with_reducible rfl); (try go_simp); refine hK _ ?_; clear hK K)
                                    (refine late_read (i := 1) rfl (by kernel_rfl) (fun _ _ _ _ h => h) rfl HSS.out (fun K hK => ?_); apply Exists.intro; refine ⟨fun w' hC => ?_, ?_⟩; ((have o0 := (HDD.out.trans hC).cellS HOBY.out (fun h => h)); go_simp; try with_reducible rfl); (try go_simp); refine hK _ ?_; clear hK K)
                                    (refine late_read (i := 2) rfl (by kernel_rfl) (fun _ _ _ _ h => h) rfl HSS.out (fun K hK => ?_); apply Exists.intro; refine ⟨fun w' hC => ?_, ?_⟩; ((skip); go_simp; try with_reducible rfl); (try go_simp); refine hK _ ?_; clear hK K)
                                    (refine late_read (i := 3) rfl (by kernel_rfl) (fun _ _ _ _ h => h) rfl HSS.out (fun K hK => ?_); apply Exists.intro; refine ⟨fun w' hC => ?_, ?_⟩; ((skip); go_simp; try with_reducible rfl); (try go_simp); refine hK _ ?_; clear hK K)
                                    (refine late_read (i := 4) rfl (by kernel_rfl) (fun _ _ _ _ h => h) rfl HSS.out (fun K hK => ?_); apply Exists.intro; refine ⟨fun w' hC => ?_, ?_⟩; ((obtain ⟨q0, q1, q2, q3⟩ := HT3.out w' (HCXY.out.trans (HDD.out.trans hC).any)); go_simp; try with_reducible rfl); (try go_simp); refine hK _ ?_; clear hK K)
                                    (refine late_read (i := 5) rfl (by kernel_rfl) (fun _ _ _ _ h => h) rfl HSS.out (fun K hK => ?_); apply Exists.intro; refine ⟨fun w' hC => ?_, ?_⟩; ((skip); go_simp; try with_reducible rfl); (try go_simp); refine hK _ ?_; clear hK K)
                                    (refine late_read (i := 6) rfl (by kernel_rfl) (fun _ _ _ _ h => h) rfl HSS.out (fun K hK => ?_); apply Exists.intro; refine ⟨fun w' hC => ?_, ?_⟩; ((skip); go_simp; try with_reducible rfl); (try go_simp); refine hK _ ?_; clear hK K)
                                    (refine late_read (i := 7) rfl (by kernel_rfl) (fun _ _ _ _ h => h) rfl HSS.out (fun K hK => ?_); apply Exists.intro; refine ⟨fun w' hC => ?_, ?_⟩; ((skip); go_simp; try with_reducible rfl); (try go_simp); refine hK _ ?_; clear hK K)
                                    (refine late_read (i := 8) rfl (by kernel_rfl) (fun _ _ _ _ h => h) rfl HSS.out (fun K hK => ?_); apply Exists.intro; refine ⟨fun w' hC => ?_, ?_⟩; ((have r1 := (HDD.out.trans hC).cellS HRLY.out.2 (fun h => h)); go_simp; try with_reducible rfl); (try go_simp); refine hK _ ?_; clear hK K)
                                    (refine late_read (i := 9) rfl (by kernel_rfl) (fun _ _ _ _ h => h) rfl HSS.out (fun K hK => ?_); apply Exists.intro; refine ⟨fun w' hC => ?_, ?_⟩; ((skip); go_simp; try with_reducible rfl); (try go_simp); refine hK _ ?_; clear hK K)
                                    (refine late_read (i := 10) rfl (by kernel_rfl) (fun _ _ _ _ h => h) rfl HSS.out (fun K hK => ?_); apply Exists.intro; refine ⟨fun w' hC => ?_, ?_⟩; ((skip); go_simp; try with_reducible rfl); (try go_simp); refine hK _ ?_; clear hK K)
                                    obtain ⟨⟨k1, k2⟩, hfin, hfc, hfb⟩ := HHI.out wd HDD.out
                                    have HF9 := Lib.hid (hfin.z HZN.out)
                                    have HC99 := Lib.hid (HCXY.out.trans (HDD.out.any.trans (hfc.mono (T := fun k => k = bo ∨ wp2.heap.size ≤ k) (fun k _ e => by omega))))
                                    clear hfin hfc hfb
                                    (refine late_store (i := 11) (by kernel_rfl) rfl rfl (fun K hK => ?_); apply Exists.intro; refine ⟨?_, (fun h => absurd h (by decide)), ?_⟩; ((skip); go_simp; try first | with_reducible rfl | exact ⟨rfl, rfl⟩); (try go_simp); refine hK _ _ ?_; clear hK K)
                                    refine late_done (by kernel_rfl) ?_ _
                                    clear k1 k2
                                    go_wp2
                                    go_roundw
                                    case rel => exact ⟨k + 1, _, _, _, by omega, by go_num, HF9.out, HC99.out⟩
                                    case measure => simp [intOf]; omega
                                  · have d51 : (p.2 + 1 == x) = false := by simpa using hlow
                                    obtain ⟨o0, o1⟩ := HOB.out
                                    go_upto_region 50 with (fail)
                                    clear o0 o1
                                    refine wp_region_same (fun w' => Chg (fun _ => False) wx w') (by kernel_rfl) (by kernel_rfl) ?_ ?_
                                    · exact (Chg.refl _ _).drew
                                    (refine wpC_read rfl (fun _ _ _ h => h) (fun K hK => ?_); apply Exists.intro; refine ⟨fun _ w' _ hC => ?_, ?_⟩; ((skip); go_simp; try with_reducible rfl); (try go_simp); refine hK _ ?_; clear hK K); (refine wpC_read rfl (fun _ _ _ h => h) (fun K hK => ?_); apply Exists.intro; refine ⟨fun _ w' _ hC => ?_, ?_⟩; ((skip); go_simp; try with_reducible rfl); (try go_simp); refine hK _ ?_; clear hK K); (refine wpC_read rfl (fun _ _ _ h => h) (fun K hK => ?_); apply Exists.intro; refine ⟨fun _ w' _ hC => ?_, ?_⟩; ((skip); go_simp; try with_reducible rfl); (try go_simp); refine hK _ ?_; clear hK K); (refine wpC_read rfl (fun _ _ _ h => h) (fun K hK => ?_); apply Exists.intro; refine ⟨fun _ w' _ hC => ?_, ?_⟩; ((skip); go_simp; try with_reducible rfl); (try go_simp); refine hK _ ?_; clear hK K); (refine wpC_read rfl (fun _ _ _ h => h) (fun K hK => ?_); apply Exists.intro; refine ⟨fun _ w' _ hC => ?_, ?_⟩; ((obtain ⟨q0, q1, q2, q3⟩ := HT3.out w' (HCX.out.trans hC.any); have o0 := hC.cellS HOB.out.1 (fun h => h); have o1 := hC.cellS HOB.out.2 (fun h => h); have r0 := hC.cellS HRL.out.1 (fun h => h); have r1 := hC.cellS HRL.out.2 (fun h => h); have e1 := hC.cellS HLAST.out.1 (fun h => h); have e2 := hC.cellS HLAST.out.2 (fun h => h)); go_simp; try with_reducible rfl); (try go_simp); refine hK _ ?_; clear hK K); (refine wpC_read rfl (fun _ _ _ h => h) (fun K hK => ?_); apply Exists.intro; refine ⟨fun _ w' _ hC => ?_, ?_⟩; ((skip); go_simp; try with_reducible rfl); (try go_simp); refine hK _ ?_; clear hK K); (refine wpC_read rfl (fun _ _ _ h => h) (fun K hK => ?_); apply Exists.intro; refine ⟨fun _ w' _ hC => ?_, ?_⟩; ((skip); go_simp; try with_reducible rfl); (try go_simp); refine hK _ ?_; clear hK K); (refine wpC_read rfl (fun _ _ _ h => h) (fun K hK => ?_); apply Exists.intro; refine ⟨fun _ w' _ hC => ?_, ?_⟩; ((obtain ⟨q0, q1, q2, q3⟩ := HT3.out w' (HCX.out.trans hC.any); have o0 := hC.cellS HOB.out.1 (fun h => h); have o1 := hC.cellS HOB.out.2 (fun h => h); have r0 := hC.cellS HRL.out.1 (fun h => h); have r1 := hC.cellS HRL.out.2 (fun h => h); have e1 := hC.cellS HLAST.out.1 (fun h => h); have e2 := hC.cellS HLAST.out.2 (fun h => h)); go_simp; try with_reducible rfl); (try go_simp); refine hK _ ?_; clear hK K); (refine wpC_read rfl (fun _ _ _ h => h) (fun K hK => ?_); apply Exists.intro; refine ⟨fun _ w' _ hC => ?_, ?_⟩; ((skip); go_simp; try with_reducible rfl); (try go_simp); refine hK _ ?_; clear hK K); (refine wpC_read rfl (fun _ _ _ h => h) (fun K hK => ?_); apply Exists.intro; refine ⟨fun _ w' _ hC => ?_, ?_⟩; ((skip); go_simp; try with_reducible rfl); (try go_simp); refine hK _ ?_; clear hK K); (refine wpC_read rfl (fun _ _ _ h => h) (fun K hK => ?_); apply Exists.intro; refine ⟨fun _ w' _ hC => ?_, ?_⟩; ((skip); go_simp; try with_reducible rfl); (try go_simp); refine hK _ ?_; clear hK K); (refine wpC_read rfl (fun _ _ _ h => h) (fun K hK => ?_); apply Exists.intro; refine ⟨fun _ w' _ hC => ?_, ?_⟩; ((skip); go_simp; try with_reducible rfl); (try go_simp); refine hK _ ?_; clear hK K); (refine wpC_read rfl (fun _ _ _ h => h) (fun K hK => ?_); apply Exists.intro; refine ⟨fun _ w' _ hC => ?_, ?_⟩; ((skip); go_simp; try with_reducible rfl); (try go_simp); refine hK _ ?_; clear hK K); (refine wpC_read rfl (fun _ _ _ h => h) (fun K hK => ?_); apply Exists.intro; refine ⟨fun _ w' _ hC => ?_, ?_⟩; ((obtain ⟨q0, q1, q2, q3⟩ := HT3.out w' (HCX.out.trans hC.any); have o0 := hC.cellS HOB.out.1 (fun h => h); have o1 := hC.cellS HOB.out.2 (fun h => h); have r0 := hC.cellS HRL.out.1 (fun h => h); have r1 := hC.cellS HRL.out.2 (fun h => h); have e1 := hC.cellS HLAST.out.1 (fun h => h); have e2 := hC.cellS HLAST.out.2 (fun h => h)); go_simp; try with_reducible rfl); (try go_simp); refine hK _ ?_; clear hK K); (refine wpC_read rfl (fun _ _ _ h => h) (fun K hK => ?_); apply Exists.intro; refine ⟨fun _ w' _ hC => ?_, ?_⟩; ((skip); go_simp; try with_reducible rfl); (try go_simp); refine hK _ ?_; clear hK K); (refine wpC_read rfl (fun _ _ _ h => h) (fun K hK => ?_); apply Exists.intro; refine ⟨fun _ w' _ hC => ?_, ?_⟩; ((skip); go_simp; try with_reducible rfl); (try go_simp); refine hK _ ?_; clear hK K); (refine wpC_read rfl (fun _ _ _ h => h) (fun K hK => ?_); apply Exists.intro; refine ⟨fun _ w' _ hC => ?_, ?_⟩; ((skip); go_simp; try with_reducible rfl); (try go_simp); refine hK _ ?_; clear hK K); (refine wpC_read rfl (fun _ _ _ h => h) (fun K hK => ?_); apply Exists.intro; refine ⟨fun _ w' _ hC => ?_, ?_⟩; ((obtain ⟨q0, q1, q2, q3⟩ := HT3.out w' (HCX.out.trans hC.any); have o0 := hC.cellS HOB.out.1 (fun h => h); have o1 := hC.cellS HOB.out.2 (fun h => h); have r0 := hC.cellS HRL.out.1 (fun h => h); have r1 := hC.cellS HRL.out.2 (fun h => h); have e1 := hC.cellS HLAST.out.1 (fun h => h); have e2 := hC.cellS HLAST.out.2 (fun h => h)); go_simp; try with_reducible rfl); (try go_simp); refine hK _ ?_; clear hK K); (refine wpC_read rfl (fun _ _ _ h => h) (fun K hK => ?_); apply Exists.intro; refine ⟨fun _ w' _ hC => ?_, ?_⟩; ((skip); go_simp; try with_reducible rfl); (try go_simp); refine hK _ ?_; clear hK K); (refine wpC_read rfl (fun _ _ _ h => h) (fun K hK => ?_); apply Exists.intro; refine ⟨fun _ w' _ hC => ?_, ?_⟩; ((skip); go_simp; try with_reducible rfl); (try go_simp); refine hK _ ?_; clear hK K); (refine wpC_read rfl (fun _ _ _ h => h) (fun K hK => ?_); apply Exists.intro; refine ⟨fun _ w' _ hC => ?_, ?_⟩; ((skip); go_simp; try with_reducible rfl); (try go_simp); refine hK _ ?_; clear hK K); (refine wpC_read rfl (fun _ _ _ h => h) (fun K hK => ?_); apply Exists.intro; refine ⟨fun _ w' _ hC => ?_, ?_⟩; ((obtain ⟨q0, q1, q2, q3⟩ := HT3.out w' (HCX.out.trans hC.any); have o0 := hC.cellS HOB.out.1 (fun h => h); have o1 := hC.cellS HOB.out.2 (fun h => h); have r0 := hC.cellS HRL.out.1 (fun h => h); have r1 := hC.cellS HRL.out.2 (fun h => h); have e1 := hC.cellS HLAST.out.1 (fun h => h); have e2 := hC.cellS HLAST.out.2 (fun h => h)); go_simp; try with_reducible rfl); (try go_simp); refine hK _ ?_; clear hK K); (refine wpC_read rfl (fun _ _ _ h => h) (fun K hK => ?_); apply Exists.intro; refine ⟨fun _ w' _ hC => ?_, ?_⟩; ((skip); go_simp; try with_reducible rfl); (try go_simp); refine hK _ ?_; clear hK K); (refine wpC_read rfl (fun _ _ _ h => h) (fun K hK => ?_); apply Exists.intro; refine ⟨fun _ w' _ hC => ?_, ?_⟩; ((skip); go_simp; try with_reducible rfl); (try go_simp); refine hK _ ?_; clear hK K); (refine wpC_read rfl (fun _ _ _ h => h) (fun K hK => ?_); apply Exists.intro; refine ⟨fun _ w' _ hC => ?_, ?_⟩; ((skip); go_simp; try with_reducible rfl); (try go_simp); refine hK _ ?_; clear hK K); (refine wpC_read rfl (fun _ _ _ h => h) (fun K hK => ?_); apply Exists.intro; refine ⟨fun _ w' _ hC => ?_, ?_⟩; ((obtain ⟨q0, q1, q2, q3⟩ := HT3.out w' (HCX.out.trans hC.any); have o0 := hC.cellS HOB.out.1 (fun h => h); have o1 := hC.cellS HOB.out.2 (fun h => h); have r0 := hC.cellS HRL.out.1 (fun h => h); have r1 := hC.cellS HRL.out.2 (fun h => h); have e1 := hC.cellS HLAST.out.1 (fun h => h); have e2 := hC.cellS HLAST.out.2 (fun h => h)); go_simp; try with_reducible rfl); (try go_simp); refine hK _ ?_; clear hK K); (refine wpC_read rfl (fun _ _ _ h => h) (fun K hK => ?_); apply Exists.intro; refine ⟨fun _ w' _ hC => ?_, ?_⟩; ((skip); go_simp; try with_reducible rfl); (try go_simp); refine hK _ ?_; clear hK K); (refine wpC_read rfl (fun _ _ _ h => h) (fun K hK => ?_); apply Exists.intro; refine ⟨fun _ w' _ hC => ?_, ?_⟩; ((skip); go_simp; try with_reducible rfl); (try go_simp); refine hK _ ?_; clear hK K); (refine wpC_read rfl (fun _ _ _ h => h) (fun K hK => ?_); apply Exists.intro; refine ⟨fun _ w' _ hC => ?_, ?_⟩; ((skip); go_simp; try with_reducible rfl); (try go_simp); refine hK _ ?_; clear hK K)
                                    refine wpC_nil ?_
                                    intro wy hCy
                                    have HCY := Lib.hid hCy
                                    clear hCy
                                    have HPY := Lib.hid (HPX.out.same HCY.out)
                                    have HCXY := Lib.hid (HCX.out.trans HCY.out.any)
                                    have HRLY := Lib.hid (show _ ∧ _ from ⟨HCY.out.cellS HRL.out.1 (fun h => h), HCY.out.cellS HRL.out.2 (fun h => h)⟩)
                                    have HOBY := Lib.hid (show _ ∧ _ from ⟨HCY.out.cellS HOB.out.1 (fun h => h), HCY.out.cellS HOB.out.2 (fun h => h)⟩)
                                    have HBY : Hid (wp2.heap.size ≤ wy.heap.size ∧ bo < wy.heap.size) := Lib.hid (by have h1 := HCXY.out.size; have h2 := HPY.out.lt; exact ⟨h1, h2⟩)
                                    go_upto_region 52 with (fail)
                                    obtain ⟨wd, hwd⟩ : ∃ x, wy.drew = x := ⟨_, rfl⟩
                                    have HDD : Hid (Chg (fun _ => False) wy wd) := Lib.hid (by rw [← hwd]; exact (Chg.refl _ _).drew)
                                    have HPD := Lib.hid (HPY.out.same HDD.out)
                                    refine wp_region_late (fun x => Chg (fun _ => False) wd x) (fun i => decide (8 ≤ i)) (by kernel_rfl) ?_
                                    show wpAnyL _ _ _ _ _ _ 11 (Array.replicate 11 false) _ wy.drew
                                    rw [hwd]
                                    clear hwd
                                    have HSS : Hid (Chg (fun _ => False) wd wd) := Lib.hid (Chg.refl _ _)
                                    (refine late_read (i := 0) rfl (by kernel_rfl) (fun _ _ _ _ h => h) rfl HSS.out (fun K hK => ?_); apply Exists.intro; refine ⟨fun w' hC => ?_, ?_⟩; ((skip); go_simp; try with_reducible rfl); (try go_simp); refine hK _ ?_; clear hK K)
                                    (refine late_read (i := 1) rfl (by kernel_rfl) (fun _ _ _ _ h => h) rfl HSS.out (fun K hK => ?_); apply Exists.intro; refine ⟨fun w' hC => ?_, ?_⟩; ((have o0 := (HDD.out.trans hC).cellS HOBY.out.1 (fun h => h)); go_simp; try with_reducible rfl); (try go_simp); refine hK _ ?_; clear hK K)
                                    (refine late_read (i := 2) rfl (by kernel_rfl) (fun _ _ _ _ h => h) rfl HSS.out (fun K hK => ?_); apply Exists.intro; refine ⟨fun w' hC => ?_, ?_⟩; ((skip); go_simp; try with_reducible rfl); (try go_simp); refine hK _ ?_; clear hK K)
                                    (refine late_read (i := 3) rfl (by kernel_rfl) (fun _ _ _ _ h => h) rfl HSS.out (fun K hK => ?_); apply Exists.intro; refine ⟨fun w' hC => ?_, ?_⟩; ((obtain ⟨q0, q1, q2, q3⟩ := HT3.out w' (HCXY.out.trans (HDD.out.trans hC).any)); go_simp; try with_reducible rfl); (try go_simp); refine hK _ ?_; clear hK K)
                                    (refine late_read (i := 4) rfl (by kernel_rfl) (fun _ _ _ _ h => h) rfl HSS.out (fun K hK => ?_); apply Exists.intro; refine ⟨fun w' hC => ?_, ?_⟩; ((skip); go_simp; try with_reducible rfl); (try go_simp); refine hK _ ?_; clear hK K)
                                    (refine late_read (i := 5) rfl (by kernel_rfl) (fun _ _ _ _ h => h) rfl HSS.out (fun K hK => ?_); apply Exists.intro; refine ⟨fun w' hC => ?_, ?_⟩; ((skip); go_simp; try with_reducible rfl); (try go_simp); refine hK _ ?_; clear hK K)
                                    (refine late_read (i := 6) rfl (by kernel_rfl) (fun _ _ _ _ h => h) rfl HSS.out (fun K hK => ?_); apply Exists.intro; refine ⟨fun w' hC => ?_, ?_⟩; ((have r0 := (HDD.out.trans hC).cellS HRLY.out.1 (fun h => h); have r1 := (HDD.out.trans hC).cellS HRLY.out.2 (fun h => h)); go_simp; try with_reducible rfl); (try go_simp); refine hK _ ?_; clear hK K)
                                    (refine late_turn (i := 7) (by kernel_rfl) rfl rfl (fun K hK => ?_); apply Exists.intro; apply Exists.intro; refine ⟨?_, ?_, ?_⟩; ((skip); go_simp; try first | with_reducible rfl | exact ⟨rfl, rfl⟩); (exact fun _ => (Chg.refl _ _).alloc _); (try go_simp); refine hK _ _ ?_; clear hK K)
                                    obtain ⟨w6, hw6⟩ : ∃ W6, W6 = wd.alloc (.cells #[.int .i32 x, .int .i32 y] 54) := ⟨_, rfl⟩
                                    have HC6 : Hid (Chg (fun _ => False) wd w6) := Lib.hid (by rw [hw6]; exact (Chg.refl _ _).alloc _)
                                    have HSRC : Hid (Src Try.prog rngE.sz rngE.sl (.slice (some ⟨wd.heap.size, 0, none⟩) 1 1) 1 (rngE.encs [(x, y)]) w6) := Lib.hid (by rw [hw6]; exact rngE.srcLit (Y := [(x, y)]) 1 HRY.out)
                                    have HP6 := Lib.hid (HPD.out.same HC6.out)
                                    have HB6 : Hid (wp2.heap.size ≤ w6.heap.size) := Lib.hid (by have := HBY.out; have := (HDD.out.trans HC6.out).size; omega)
                                    rw [← hw6]
                                    clear hw6
                                    refine late_append (i := 8) (by kernel_rfl) rfl rfl (.tmp 228) (.tmp 234) 22 22 rfl (.slice (some ⟨gR, 0, none⟩) (C'.length + 1) cr) (.slice (some ⟨wd.heap.size, 0, none⟩) 1 1) rfl rfl (fun v' w1 => rngE.Own w1 wp2.heap.size v' ((R' ++ [p]) ++ [(x, y)]) ∧ Chg (fun k => (Value.slice (some ⟨gR, 0, none⟩) (C'.length + 1) cr).ownBlock = some k) w6 w1 ∧ (v'.ownBlock = (Value.slice (some ⟨gR, 0, none⟩) (C'.length + 1) cr).ownBlock ∨ v'.ownBlock = some w6.heap.size) ∧ ∃ a n c, v' = .slice a n c) ?_ ?_
                                    · obtain ⟨v', w1, hrun, h1, h2, ⟨h3, h4⟩, -⟩ := HP6.out.r.own.append HB6.out 22 (.slice (some ⟨wd.heap.size, 0, none⟩) 1 1) [(x, y)] HSRC.out HRY.out (by have h1 := HLEN.out; first | (simp; done) | (simp at h1 ⊢; omega)) 22
                                      exact ⟨v', w1, hrun, (fun h => absurd h (by decide)), h1, h3, h4, h1.shape3⟩
                                    rintro v' w1' - ⟨h1, h2, h3, va', vn', vc', rfl⟩ K hK
                                    obtain ⟨⟨k1, k2⟩, hfin⟩ := HP6.out.rng h1 h2 h3
                                    have HFIN := Lib.hid hfin
                                    have HCF : Hid (Chg (fun k => k = bo ∨ wp2.heap.size ≤ k) wp2 (w1'.setCell ⟨bo, 0, none⟩ (.slice va' vn' vc'))) := Lib.hid ((HCXY.out.trans (HDD.out.trans HC6.out).any).trans ((h2.mono (fun k _ e => .inr (HP6.out.r.own.blk e).1)).trans ((setCellChg w1' bo 0 _).mono (fun k _ e => .inl e))))
                                    clear h1 h2 h3 hfin
                                    (try go_simp)
                                    refine hK _ ?_
                                    clear hK K
                                    (refine late_turn (i := 9) (by kernel_rfl) rfl rfl (fun K hK => ?_); apply Exists.intro; apply Exists.intro; refine ⟨?_, ?_, ?_⟩; ((skip); go_simp; try first | with_reducible rfl | exact ⟨rfl, rfl⟩); (exact fun h => absurd h (by decide)); (try go_simp); refine hK _ _ ?_; clear hK K)
                                    (refine late_store (i := 10) (by kernel_rfl) rfl rfl (fun K hK => ?_); apply Exists.intro; refine ⟨?_, (fun h => absurd h (by decide)), ?_⟩; ((skip); go_simp; try first | with_reducible rfl | exact ⟨rfl, rfl⟩); (try go_simp); refine hK _ _ ?_; clear hK K)
                                    refine late_done (by kernel_rfl) ?_ _
                                    clear k1 k2
                                    obtain ⟨w7, hw7⟩ : ∃ x, x = w1'.setCell ⟨bo, 0, none⟩ (.slice va' vn' vc') := ⟨_, rfl⟩
                                    rw [← hw7] at HFIN HCF ⊢
                                    clear hw7
                                    have o1 := HFIN.out.c1
                                    have HB7 : Hid (wp2.heap.size ≤ w7.heap.size) := Lib.hid HCF.out.size
                                    have HP8 := Lib.hid (HFIN.out.same ((Chg.refl (fun _ => False) w7).alloc (.cells #[.int .i64 (m : Int)] 3)))
                                    have HA8 := Lib.hid (fun (v' : Value) (w' : World) (h1 : intE.Own w' wp2.heap.size v' ((C' ++ [(m : Int)]) ++ [((m : Int) : Int)])) h2 h3 => HP8.out.cls (vk' := v') h1 h2 h3)
                                    go_wp2_with (at_builtin; refine Elt.wpList_append2 intE rfl _ _ 23 23 rfl rfl wp2.heap.size (.slice (some ⟨gK, 0, none⟩) (C'.length + 1) ck) (C' ++ [(m : Int)]) [((m : Int) : Int)] (.slice (some ⟨w7.heap.size, 0, none⟩) 1 1) rfl rfl HP8.out.k.own (by have := HB7.out; simp; omega) (intE.srcLit (Y := [((m : Int) : Int)]) 1 HYC.out) HYC.out (by have h1 := HLEN2.out; first | (simp; done) | (simp at h1 ⊢; omega)) ?_; intro v' w9 HO9 HC9 HC9b; obtain ⟨⟨k1, k2⟩, hfin⟩ := HA8.out v' w9 HO9.out HC9b.out.1 HC9b.out.2; obtain ⟨va9, vn9, vc9, hv9⟩ := HO9.out.shape3; subst hv9; have HFIN9 := Lib.hid hfin; clear hfin)
                                    have HZN : Hid (zK t o (k + 1) = (cols, (R' ++ [p]) ++ [(x, y)], (C' ++ [(m : Int)]) ++ [((m : Int) : Int)])) := Lib.hid (by
                                      rw [zK_step HRK.out.1 HRK.out.2, HZ.out]
                                      unfold foldCol
                                      rw [if_neg (by rw [HNEG.out]; decide)]
                                      rw [if_neg (by rw [HIDX.out]; omega)]
                                      simp only [HIDX.out]
                                      unfold mrg
                                      rw [if_neg (by simp; exact hlow)])
                                    have HF9 := Lib.hid (HFIN9.out.z HZN.out)
                                    have HC99 : Hid (Chg (fun k => k = bo ∨ wp2.heap.size ≤ k) wp2 (w9.setCell ⟨bo, 1, none⟩ (.slice va9 vn9 vc9))) := Lib.hid ((HCF.out.trans ((Chg.refl _ _).alloc _)).trans ((HC9.out.mono (fun k _ e => .inr e)).trans ((setCellChg w9 bo 1 _).mono (fun k _ e => .inl e))))
                                    clear k1 k2 HO9 HC9 HC9b HFIN HFIN9 HP8 HA8 HPD HP6 HPY o1
                                    go_roundw
                                    case rel => exact ⟨k + 1, _, _, _, by omega, by go_num, HF9.out, HC99.out⟩
                                    case measure => simp [intOf]; omega
                                · have d50 : (dl == (m : Int)) = false := by simpa using hdc
                                  obtain ⟨o0, o1⟩ := HOB.out
                                  go_upto_region 50 with (fail)
                                  clear o0 o1
                                  refine wp_region_same (fun w' => Chg (fun _ => False) wx w') (by kernel_rfl) (by kernel_rfl) ?_ ?_
                                  · exact (Chg.refl _ _).drew
                                  (refine wpC_read rfl (fun _ _ _ h => h) (fun K hK => ?_); apply Exists.intro; refine ⟨fun _ w' _ hC => ?_, ?_⟩; ((skip); go_simp; try with_reducible rfl); (try go_simp); refine hK _ ?_; clear hK K); (refine wpC_read rfl (fun _ _ _ h => h) (fun K hK => ?_); apply Exists.intro; refine ⟨fun _ w' _ hC => ?_, ?_⟩; ((skip); go_simp; try with_reducible rfl); (try go_simp); refine hK _ ?_; clear hK K); (refine wpC_read rfl (fun _ _ _ h => h) (fun K hK => ?_); apply Exists.intro; refine ⟨fun _ w' _ hC => ?_, ?_⟩; ((skip); go_simp; try with_reducible rfl); (try go_simp); refine hK _ ?_; clear hK K); (refine wpC_read rfl (fun _ _ _ h => h) (fun K hK => ?_); apply Exists.intro; refine ⟨fun _ w' _ hC => ?_, ?_⟩; ((skip); go_simp; try with_reducible rfl); (try go_simp); refine hK _ ?_; clear hK K); (refine wpC_read rfl (fun _ _ _ h => h) (fun K hK => ?_); apply Exists.intro; refine ⟨fun _ w' _ hC => ?_, ?_⟩; ((obtain ⟨q0, q1, q2, q3⟩ := HT3.out w' (HCX.out.trans hC.any); have o0 := hC.cellS HOB.out.1 (fun h => h); have o1 := hC.cellS HOB.out.2 (fun h => h); have e1 := hC.cellS HLAST.out.1 (fun h => h); have e2 := hC.cellS HLAST.out.2 (fun h => h)); go_simp; try with_reducible rfl); (try go_simp); refine hK _ ?_; clear hK K); (refine wpC_read rfl (fun _ _ _ h => h) (fun K hK => ?_); apply Exists.intro; refine ⟨fun _ w' _ hC => ?_, ?_⟩; ((skip); go_simp; try with_reducible rfl); (try go_simp); refine hK _ ?_; clear hK K); (refine wpC_read rfl (fun _ _ _ h => h) (fun K hK => ?_); apply Exists.intro; refine ⟨fun _ w' _ hC => ?_, ?_⟩; ((skip); go_simp; try with_reducible rfl); (try go_simp); refine hK _ ?_; clear hK K); (refine wpC_read rfl (fun _ _ _ h => h) (fun K hK => ?_); apply Exists.intro; refine ⟨fun _ w' _ hC => ?_, ?_⟩; ((obtain ⟨q0, q1, q2, q3⟩ := HT3.out w' (HCX.out.trans hC.any); have o0 := hC.cellS HOB.out.1 (fun h => h); have o1 := hC.cellS HOB.out.2 (fun h => h); have e1 := hC.cellS HLAST.out.1 (fun h => h); have e2 := hC.cellS HLAST.out.2 (fun h => h)); go_simp; try with_reducible rfl); (try go_simp); refine hK _ ?_; clear hK K); (refine wpC_read rfl (fun _ _ _ h => h) (fun K hK => ?_); apply Exists.intro; refine ⟨fun _ w' _ hC => ?_, ?_⟩; ((skip); go_simp; try with_reducible rfl); (try go_simp); refine hK _ ?_; clear hK K); (refine wpC_read rfl (fun _ _ _ h => h) (fun K hK => ?_); apply Exists.intro; refine ⟨fun _ w' _ hC => ?_, ?_⟩; ((skip); go_simp; try with_reducible rfl); (try go_simp); refine hK _ ?_; clear hK K); (refine wpC_read rfl (fun _ _ _ h => h) (fun K hK => ?_); apply Exists.intro; refine ⟨fun _ w' _ hC => ?_, ?_⟩; ((skip); go_simp; try with_reducible rfl); (try go_simp); refine hK _ ?_; clear hK K); (refine wpC_read rfl (fun _ _ _ h => h) (fun K hK => ?_); apply Exists.intro; refine ⟨fun _ w' _ hC => ?_, ?_⟩; ((skip); go_simp; try with_reducible rfl); (try go_simp); refine hK _ ?_; clear hK K); (refine wpC_skip rfl (fun _ _ _ h => h) (fun K hK => ?_); (try go_simp); refine hK _ ?_; clear hK K); (refine wpC_skip rfl (fun _ _ _ h => h) (fun K hK => ?_); (try go_simp); refine hK _ ?_; clear hK K); (refine wpC_skip rfl (fun _ _ _ h => h) (fun K hK => ?_); (try go_simp); refine hK _ ?_; clear hK K); (refine wpC_skip rfl (fun _ _ _ h => h) (fun K hK => ?_); (try go_simp); refine hK _ ?_; clear hK K); (refine wpC_skip rfl (fun _ _ _ h => h) (fun K hK => ?_); (try go_simp); refine hK _ ?_; clear hK K); (refine wpC_skip rfl (fun _ _ _ h => h) (fun K hK => ?_); (try go_simp); refine hK _ ?_; clear hK K); (refine wpC_skip rfl (fun _ _ _ h => h) (fun K hK => ?_); (try go_simp); refine hK _ ?_; clear hK K); (refine wpC_skip rfl (fun _ _ _ h => h) (fun K hK => ?_); (try go_simp); refine hK _ ?_; clear hK K); (refine wpC_skip rfl (fun _ _ _ h => h) (fun K hK => ?_); (try go_simp); refine hK _ ?_; clear hK K); (refine wpC_skip rfl (fun _ _ _ h => h) (fun K hK => ?_); (try go_simp); refine hK _ ?_; clear hK K); (refine wpC_skip rfl (fun _ _ _ h => h) (fun K hK => ?_); (try go_simp); refine hK _ ?_; clear hK K); (refine wpC_skip rfl (fun _ _ _ h => h) (fun K hK => ?_); (try go_simp); refine hK _ ?_; clear hK K); (refine wpC_skip rfl (fun _ _ _ h => h) (fun K hK => ?_); (try go_simp); refine hK _ ?_; clear hK K); (refine wpC_skip rfl (fun _ _ _ h => h) (fun K hK => ?_); (try go_simp); refine hK _ ?_; clear hK K); (refine wpC_skip rfl (fun _ _ _ h => h) (fun K hK => ?_); (try go_simp); refine hK _ ?_; clear hK K); (refine wpC_skip rfl (fun _ _ _ h => h) (fun K hK => ?_); (try go_simp); refine hK _ ?_; clear hK K); (refine wpC_read rfl (fun _ _ _ h => h) (fun K hK => ?_); apply Exists.intro; refine ⟨fun _ w' _ hC => ?_, ?_⟩; ((skip); go_simp; try with_reducible rfl); (try go_simp); refine hK _ ?_; clear hK K)
                                  refine wpC_nil ?_
                                  intro wy hCy
                                  have HCY := Lib.hid hCy
                                  clear hCy
                                  have HPY := Lib.hid (HPX.out.same HCY.out)
                                  have HCXY := Lib.hid (HCX.out.trans HCY.out.any)
                                  have HRLY := Lib.hid (show _ ∧ _ from ⟨HCY.out.cellS HRL.out.1 (fun h => h), HCY.out.cellS HRL.out.2 (fun h => h)⟩)
                                  have HOBY := Lib.hid (show _ ∧ _ from ⟨HCY.out.cellS HOB.out.1 (fun h => h), HCY.out.cellS HOB.out.2 (fun h => h)⟩)
                                  have HBY : Hid (wp2.heap.size ≤ wy.heap.size ∧ bo < wy.heap.size) := Lib.hid (by have h1 := HCXY.out.size; have h2 := HPY.out.lt; exact ⟨h1, h2⟩)
                                  go_upto_region 52 with (fail)
                                  obtain ⟨wd, hwd⟩ : ∃ x, wy.drew = x := ⟨_, rfl⟩
                                  have HDD : Hid (Chg (fun _ => False) wy wd) := Lib.hid (by rw [← hwd]; exact (Chg.refl _ _).drew)
                                  have HPD := Lib.hid (HPY.out.same HDD.out)
                                  refine wp_region_late (fun x => Chg (fun _ => False) wd x) (fun i => decide (8 ≤ i)) (by kernel_rfl) ?_
                                  show wpAnyL _ _ _ _ _ _ 11 (Array.replicate 11 false) _ wy.drew
                                  rw [hwd]
                                  clear hwd
                                  have HSS : Hid (Chg (fun _ => False) wd wd) := Lib.hid (Chg.refl _ _)
                                  (refine late_read (i := 0) rfl (by kernel_rfl) (fun _ _ _ _ h => h) rfl HSS.out (fun K hK => ?_); apply Exists.intro; refine ⟨fun w' hC => ?_, ?_⟩; ((skip); go_simp; try with_reducible rfl); (try go_simp); refine hK _ ?_; clear hK K)
                                  (refine late_read (i := 1) rfl (by kernel_rfl) (fun _ _ _ _ h => h) rfl HSS.out (fun K hK => ?_); apply Exists.intro; refine ⟨fun w' hC => ?_, ?_⟩; ((have o0 := (HDD.out.trans hC).cellS HOBY.out.1 (fun h => h)); go_simp; try with_reducible rfl); (try go_simp); refine hK _ ?_; clear hK K)
                                  (refine late_read (i := 2) rfl (by kernel_rfl) (fun _ _ _ _ h => h) rfl HSS.out (fun K hK => ?_); apply Exists.intro; refine ⟨fun w' hC => ?_, ?_⟩; ((skip); go_simp; try with_reducible rfl); (try go_simp); refine hK _ ?_; clear hK K)
                                  (refine late_read (i := 3) rfl (by kernel_rfl) (fun _ _ _ _ h => h) rfl HSS.out (fun K hK => ?_); apply Exists.intro; refine ⟨fun w' hC => ?_, ?_⟩; ((obtain ⟨q0, q1, q2, q3⟩ := HT3.out w' (HCXY.out.trans (HDD.out.trans hC).any)); go_simp; try with_reducible rfl); (try go_simp); refine hK _ ?_; clear hK K)
                                  (refine late_read (i := 4) rfl (by kernel_rfl) (fun _ _ _ _ h => h) rfl HSS.out (fun K hK => ?_); apply Exists.intro; refine ⟨fun w' hC => ?_, ?_⟩; ((skip); go_simp; try with_reducible rfl); (try go_simp); refine hK _ ?_; clear hK K)
                                  (refine late_read (i := 5) rfl (by kernel_rfl) (fun _ _ _ _ h => h) rfl HSS.out (fun K hK => ?_); apply Exists.intro; refine ⟨fun w' hC => ?_, ?_⟩; ((skip); go_simp; try with_reducible rfl); (try go_simp); refine hK _ ?_; clear hK K)
                                  (refine late_read (i := 6) rfl (by kernel_rfl) (fun _ _ _ _ h => h) rfl HSS.out (fun K hK => ?_); apply Exists.intro; refine ⟨fun w' hC => ?_, ?_⟩; ((have r0 := (HDD.out.trans hC).cellS HRLY.out.1 (fun h => h); have r1 := (HDD.out.trans hC).cellS HRLY.out.2 (fun h => h)); go_simp; try with_reducible rfl); (try go_simp); refine hK _ ?_; clear hK K)
                                  (refine late_turn (i := 7) (by kernel_rfl) rfl rfl (fun K hK => ?_); apply Exists.intro; apply Exists.intro; refine ⟨?_, ?_, ?_⟩; ((skip); go_simp; try first | with_reducible rfl | exact ⟨rfl, rfl⟩); (exact fun _ => (Chg.refl _ _).alloc _); (try go_simp); refine hK _ _ ?_; clear hK K)
                                  obtain ⟨w6, hw6⟩ : ∃ W6, W6 = wd.alloc (.cells #[.int .i32 x, .int .i32 y] 54) := ⟨_, rfl⟩
                                  have HC6 : Hid (Chg (fun _ => False) wd w6) := Lib.hid (by rw [hw6]; exact (Chg.refl _ _).alloc _)
                                  have HSRC : Hid (Src Try.prog rngE.sz rngE.sl (.slice (some ⟨wd.heap.size, 0, none⟩) 1 1) 1 (rngE.encs [(x, y)]) w6) := Lib.hid (by rw [hw6]; exact rngE.srcLit (Y := [(x, y)]) 1 HRY.out)
                                  have HP6 := Lib.hid (HPD.out.same HC6.out)
                                  have HB6 : Hid (wp2.heap.size ≤ w6.heap.size) := Lib.hid (by have := HBY.out; have := (HDD.out.trans HC6.out).size; omega)
                                  rw [← hw6]
                                  clear hw6
                                  refine late_append (i := 8) (by kernel_rfl) rfl rfl (.tmp 228) (.tmp 234) 22 22 rfl (.slice (some ⟨gR, 0, none⟩) (C'.length + 1) cr) (.slice (some ⟨wd.heap.size, 0, none⟩) 1 1) rfl rfl (fun v' w1 => rngE.Own w1 wp2.heap.size v' ((R' ++ [p]) ++ [(x, y)]) ∧ Chg (fun k => (Value.slice (some ⟨gR, 0, none⟩) (C'.length + 1) cr).ownBlock = some k) w6 w1 ∧ (v'.ownBlock = (Value.slice (some ⟨gR, 0, none⟩) (C'.length + 1) cr).ownBlock ∨ v'.ownBlock = some w6.heap.size) ∧ ∃ a n c, v' = .slice a n c) ?_ ?_
                                  · obtain ⟨v', w1, hrun, h1, h2, ⟨h3, h4⟩, -⟩ := HP6.out.r.own.append HB6.out 22 (.slice (some ⟨wd.heap.size, 0, none⟩) 1 1) [(x, y)] HSRC.out HRY.out (by have h1 := HLEN.out; first | (simp; done) | (simp at h1 ⊢; omega)) 22
                                    exact ⟨v', w1, hrun, (fun h => absurd h (by decide)), h1, h3, h4, h1.shape3⟩
                                  rintro v' w1' - ⟨h1, h2, h3, va', vn', vc', rfl⟩ K hK
                                  obtain ⟨⟨k1, k2⟩, hfin⟩ := HP6.out.rng h1 h2 h3
                                  have HFIN := Lib.hid hfin
                                  have HCF : Hid (Chg (fun k => k = bo ∨ wp2.heap.size ≤ k) wp2 (w1'.setCell ⟨bo, 0, none⟩ (.slice va' vn' vc'))) := Lib.hid ((HCXY.out.trans (HDD.out.trans HC6.out).any).trans ((h2.mono (fun k _ e => .inr (HP6.out.r.own.blk e).1)).trans ((setCellChg w1' bo 0 _).mono (fun k _ e => .inl e))))
                                  clear h1 h2 h3 hfin
                                  (try go_simp)
                                  refine hK _ ?_
                                  clear hK K
                                  (refine late_turn (i := 9) (by kernel_rfl) rfl rfl (fun K hK => ?_); apply Exists.intro; apply Exists.intro; refine ⟨?_, ?_, ?_⟩; ((skip); go_simp; try first | with_reducible rfl | exact ⟨rfl, rfl⟩); (exact fun h => absurd h (by decide)); (try go_simp); refine hK _ _ ?_; clear hK K)
                                  (refine late_store (i := 10) (by kernel_rfl) rfl rfl (fun K hK => ?_); apply Exists.intro; refine ⟨?_, (fun h => absurd h (by decide)), ?_⟩; ((skip); go_simp; try first | with_reducible rfl | exact ⟨rfl, rfl⟩); (try go_simp); refine hK _ _ ?_; clear hK K)
                                  refine late_done (by kernel_rfl) ?_ _
                                  clear k1 k2
                                  obtain ⟨w7, hw7⟩ : ∃ x, x = w1'.setCell ⟨bo, 0, none⟩ (.slice va' vn' vc') := ⟨_, rfl⟩
                                  rw [← hw7] at HFIN HCF ⊢
                                  clear hw7
                                  have o1 := HFIN.out.c1
                                  have HB7 : Hid (wp2.heap.size ≤ w7.heap.size) := Lib.hid HCF.out.size
                                  have HP8 := Lib.hid (HFIN.out.same ((Chg.refl (fun _ => False) w7).alloc (.cells #[.int .i64 (m : Int)] 3)))
                                  have HA8 := Lib.hid (fun (v' : Value) (w' : World) (h1 : intE.Own w' wp2.heap.size v' ((C' ++ [dl]) ++ [((m : Int) : Int)])) h2 h3 => HP8.out.cls (vk' := v') h1 h2 h3)
                                  go_wp2_with (at_builtin; refine Elt.wpList_append2 intE rfl _ _ 23 23 rfl rfl wp2.heap.size (.slice (some ⟨gK, 0, none⟩) (C'.length + 1) ck) (C' ++ [dl]) [((m : Int) : Int)] (.slice (some ⟨w7.heap.size, 0, none⟩) 1 1) rfl rfl HP8.out.k.own (by have := HB7.out; simp; omega) (intE.srcLit (Y := [((m : Int) : Int)]) 1 HYC.out) HYC.out (by have h1 := HLEN2.out; first | (simp; done) | (simp at h1 ⊢; omega)) ?_; intro v' w9 HO9 HC9 HC9b; obtain ⟨⟨k1, k2⟩, hfin⟩ := HA8.out v' w9 HO9.out HC9b.out.1 HC9b.out.2; obtain ⟨va9, vn9, vc9, hv9⟩ := HO9.out.shape3; subst hv9; have HFIN9 := Lib.hid hfin; clear hfin)
                                  have HZN : Hid (zK t o (k + 1) = (cols, (R' ++ [p]) ++ [(x, y)], (C' ++ [dl]) ++ [((m : Int) : Int)])) := Lib.hid (by
                                    rw [zK_step HRK.out.1 HRK.out.2, HZ.out]
                                    unfold foldCol
                                    rw [if_neg (by rw [HNEG.out]; decide)]
                                    rw [if_neg (by rw [HIDX.out]; omega)]
                                    simp only [HIDX.out]
                                    unfold mrg
                                    rw [if_neg (by simp; intro h; exact absurd h hdc)])
                                  have HF9 := Lib.hid (HFIN9.out.z HZN.out)
                                  have HC99 : Hid (Chg (fun k => k = bo ∨ wp2.heap.size ≤ k) wp2 (w9.setCell ⟨bo, 1, none⟩ (.slice va9 vn9 vc9))) := Lib.hid ((HCF.out.trans ((Chg.refl _ _).alloc _)).trans ((HC9.out.mono (fun k _ e => .inr e)).trans ((setCellChg w9 bo 1 _).mono (fun k _ e => .inl e))))
                                  clear k1 k2 HO9 HC9 HC9b HFIN HFIN9 HP8 HA8 HPD HP6 HPY o1
                                  go_roundw
                                  case rel => exact ⟨k + 1, _, _, _, by omega, by go_num, HF9.out, HC99.out⟩
                                  case measure => simp [intOf]; omega
                              -- @dev}
                        · obtain rfl : m = cols.length := by omega
                          have b4 : ¬ cols.length < cols.length := by omega
                          have HIDX : Hid (idxV (fun x => x == colT t o (cc2 : Int)) cols = -1) := Lib.hid (idxV_none (fun i y hi hy => HMB.out i y hi hy))
                          have HPM := Lib.hid (((HPH.out.mark (τ' := fun g => if wq.heap.size ≤ g then 1 else τ g) (fun g _ hg => by rw [if_neg (by omega)])).same (HCQ.out.trans HCV.out)).same ((Chg.refl (fun _ => False) wr).alloc (.cells #[.slice vla o.length vlc] 23)))
                          obtain ⟨X, hX1, hX2, hX3⟩ := HPM.out.cols.x
                          have HX := Lib.hid (show _ ∧ _ ∧ _ from ⟨hX1, hX2, hX3⟩)
                          have HROW : Hid (TOwn intE (wr.alloc (.cells #[.slice vla o.length vlc] 23)) wp2.heap.size (fun g => if wq.heap.size ≤ g then 1 else τ g) 1 (slV (vla, o.length, vlc)) (colT t o (cc2 : Int))) := Lib.hid (by
                            have h1 := (HOWN.out.chg HCV.out (fun _ _ _ h => h)).chg ((Chg.refl (fun _ => False) wr).alloc (.cells #[.slice vla o.length vlc] 23)) (fun _ _ _ h => h)
                            exact ⟨h1.lower HC.out.size, fun g hg => by rw [if_pos (h1.blk hg).1]⟩)
                          have HBW : Hid (wp2.heap.size ≤ wr.heap.size) := Lib.hid (HCW.out.trans HCV.out.any).size
                          have HCXR := Lib.hid (HCW.out.trans HCV.out.any)
                          clear hX1 hX2 hX3
                          go_upto_region 49 with (at_builtin; go_loud (refine Elt.wpList_append2 listE rfl _ _ 24 24 rfl rfl wp2.heap.size (.slice vca cols.length vcc) X [(vla, o.length, vlc)] (.slice (some ⟨wr.heap.size, 0, none⟩) 1 1) rfl rfl HX.out.1.own (by have := HBW.out; simp; omega) (listE.srcLit (Y := [(vla, o.length, vlc)]) 1 (fun _ _ => trivial)) (fun _ _ => trivial) (by have h1 : X.length = cols.length := HX.out.2.1; have h2 := HLEN3.out; rw [h1]; simp; omega) ?_; intro v' wx HO5 HC5 HC5b; have HPX := Lib.hid (HPM.out.col HX.out.1 HX.out.2.1 HX.out.2.2 HROW.out HO5.out HC5b.out.1 HC5b.out.2); obtain ⟨va9, vn9, vc9, hv9⟩ := HO5.out.shape3; subst hv9))
                          have HCX : Hid (Chg (fun k => k = bo ∨ wp2.heap.size ≤ k) wp2 wx) := Lib.hid (HCXR.out.trans (((Chg.refl _ _).alloc _).trans (HC5.out.mono (fun k _ e => .inr e))))
                          have HCWX : Hid (Chg (fun k => wp2.heap.size ≤ k) wr wx) := Lib.hid (((Chg.refl _ _).alloc _).trans HC5.out)
                          have HRL : Hid (wx.cell? ⟨gr, or + k * 2, none⟩ = some (.int .i32 x) ∧ wx.cell? ⟨gr, or + k * 2 + 1, none⟩ = some (.int .i32 y)) := Lib.hid (by
                            obtain ⟨x', y', gr', or', h1, h2, h3, h4, -⟩ := (HTB3.out wx HCX.out).r.getR hkl
                            rw [HRK.out.1] at h1
                            injection h1 with h1
                            injection h1 with e1 e2
                            subst e1 e2
                            injection h2 with h2
                            injection h2 with e1 e2
                            subst e1 e2
                            exact ⟨h3, h4⟩)
                          have HOB := Lib.hid (show _ ∧ _ from ⟨HPX.out.c0, HPX.out.c1⟩)
                          have HYC : Hid (∀ a ∈ [(cols.length : Int)], intE.ok a) := Lib.hid (fun a ha => by rw [List.mem_singleton] at ha; subst ha; have := HLEN3.out; constructor <;> omega)
                          have hCR := HCRH.out
                          clear HPH HPV HOWN HCL HPM HX HROW HO5 HC5 HC5b
                          as_aux_lemma =>
                            -- @dev{
                            by_cases hRe : R = []
                            · skip
                              have hR0 : R = [] := hRe
                              have hC0 : C = [] := by
                                cases C with
                                | nil => rfl
                                | cons c C => rw [hR0] at hCR; simp at hCR
                              subst hR0 hC0
                              clear hRe hCR
                              simp only [List.length_nil] at HPX HOB
                              obtain ⟨o0, o1⟩ := HOB.out
                              go_upto_region 50 with (fail)
                              clear o0 o1
                              refine wp_region_same (fun w' => Chg (fun _ => False) wx w') (by kernel_rfl) (by kernel_rfl) ?_ ?_
                              · exact (Chg.refl _ _).drew
                              (refine wpC_read rfl (fun _ _ _ h => h) (fun K hK => ?_); apply Exists.intro; refine ⟨fun _ w' _ hC => ?_, ?_⟩; ((skip); go_simp; try with_reducible rfl); (try go_simp); refine hK _ ?_; clear hK K); (refine wpC_read rfl (fun _ _ _ h => h) (fun K hK => ?_); apply Exists.intro; refine ⟨fun _ w' _ hC => ?_, ?_⟩; ((skip); go_simp; try with_reducible rfl); (try go_simp); refine hK _ ?_; clear hK K); (refine wpC_read rfl (fun _ _ _ h => h) (fun K hK => ?_); apply Exists.intro; refine ⟨fun _ w' _ hC => ?_, ?_⟩; ((skip); go_simp; try with_reducible rfl); (try go_simp); refine hK _ ?_; clear hK K); (refine wpC_skip rfl (fun _ _ _ h => h) (fun K hK => ?_); (try go_simp); refine hK _ ?_; clear hK K); (refine wpC_skip rfl (fun _ _ _ h => h) (fun K hK => ?_); (try go_simp); refine hK _ ?_; clear hK K); (refine wpC_skip rfl (fun _ _ _ h => h) (fun K hK => ?_); (try go_simp); refine hK _ ?_; clear hK K); (refine wpC_skip rfl (fun _ _ _ h => h) (fun K hK => ?_); (try go_simp); refine hK _ ?_; clear hK K); (refine wpC_skip rfl (fun _ _ _ h => h) (fun K hK => ?_); (try go_simp); refine hK _ ?_; clear hK K); (refine wpC_skip rfl (fun _ _ _ h => h) (fun K hK => ?_); (try go_simp); refine hK _ ?_; clear hK K); (refine wpC_skip rfl (fun _ _ _ h => h) (fun K hK => ?_); (try go_simp); refine hK _ ?_; clear hK K); (refine wpC_read rfl (fun _ _ _ h => h) (fun K hK => ?_); apply Exists.intro; refine ⟨fun _ w' _ hC => ?_, ?_⟩; ((skip); go_simp; try with_reducible rfl); (try go_simp); refine hK _ ?_; clear hK K); (refine wpC_read rfl (fun _ _ _ h => h) (fun K hK => ?_); apply Exists.intro; refine ⟨fun _ w' _ hC => ?_, ?_⟩; ((skip); go_simp; try with_reducible rfl); (try go_simp); refine hK _ ?_; clear hK K); (refine wpC_skip rfl (fun _ _ _ h => h) (fun K hK => ?_); (try go_simp); refine hK _ ?_; clear hK K); (refine wpC_skip rfl (fun _ _ _ h => h) (fun K hK => ?_); (try go_simp); refine hK _ ?_; clear hK K); (refine wpC_skip rfl (fun _ _ _ h => h) (fun K hK => ?_); (try go_simp); refine hK _ ?_; clear hK K); (refine wpC_skip rfl (fun _ _ _ h => h) (fun K hK => ?_); (try go_simp); refine hK _ ?_; clear hK K); (refine wpC_skip rfl (fun _ _ _ h => h) (fun K hK => ?_); (try go_simp); refine hK _ ?_; clear hK K); (refine wpC_skip rfl (fun _ _ _ h => h) (fun K hK => ?_); (try go_simp); refine hK _ ?_; clear hK K); (refine wpC_skip rfl (fun _ _ _ h => h) (fun K hK => ?_); (try go_simp); refine hK _ ?_; clear hK K); (refine wpC_skip rfl (fun _ _ _ h => h) (fun K hK => ?_); (try go_simp); refine hK _ ?_; clear hK K); (refine wpC_skip rfl (fun _ _ _ h => h) (fun K hK => ?_); (try go_simp); refine hK _ ?_; clear hK K); (refine wpC_skip rfl (fun _ _ _ h => h) (fun K hK => ?_); (try go_simp); refine hK _ ?_; clear hK K); (refine wpC_skip rfl (fun _ _ _ h => h) (fun K hK => ?_); (try go_simp); refine hK _ ?_; clear hK K); (refine wpC_skip rfl (fun _ _ _ h => h) (fun K hK => ?_); (try go_simp); refine hK _ ?_; clear hK K); (refine wpC_skip rfl (fun _ _ _ h => h) (fun K hK => ?_); (try go_simp); refine hK _ ?_; clear hK K); (refine wpC_skip rfl (fun _ _ _ h => h) (fun K hK => ?_); (try go_simp); refine hK _ ?_; clear hK K); (refine wpC_skip rfl (fun _ _ _ h => h) (fun K hK => ?_); (try go_simp); refine hK _ ?_; clear hK K); (refine wpC_skip rfl (fun _ _ _ h => h) (fun K hK => ?_); (try go_simp); refine hK _ ?_; clear hK K); (refine wpC_read rfl (fun _ _ _ h => h) (fun K hK => ?_); apply Exists.intro; refine ⟨fun _ w' _ hC => ?_, ?_⟩; ((skip); go_simp; try with_reducible rfl); (try go_simp); refine hK _ ?_; clear hK K)
                              refine wpC_nil ?_
                              intro wy hCy
                              have HCY := Lib.hid hCy
                              clear hCy
                              have HPY := Lib.hid (HPX.out.same HCY.out)
                              have HCXY := Lib.hid (HCX.out.trans HCY.out.any)
                              have HRLY := Lib.hid (show _ ∧ _ from ⟨HCY.out.cellS HRL.out.1 (fun h => h), HCY.out.cellS HRL.out.2 (fun h => h)⟩)
                              have HOBY := Lib.hid (show _ ∧ _ from ⟨HCY.out.cellS HOB.out.1 (fun h => h), HCY.out.cellS HOB.out.2 (fun h => h)⟩)
                              have HBY : Hid (wp2.heap.size ≤ wy.heap.size ∧ bo < wy.heap.size) := Lib.hid (by have h1 := HCXY.out.size; have h2 := HPY.out.lt; exact ⟨h1, h2⟩)
                              go_upto_region 52 with (fail)
                              obtain ⟨wd, hwd⟩ : ∃ x, wy.drew = x := ⟨_, rfl⟩
                              have HDD : Hid (Chg (fun _ => False) wy wd) := Lib.hid (by rw [← hwd]; exact (Chg.refl _ _).drew)
                              have HPD := Lib.hid (HPY.out.same HDD.out)
                              refine wp_region_late (fun x => Chg (fun _ => False) wd x) (fun i => decide (8 ≤ i)) (by kernel_rfl) ?_
                              show wpAnyL _ _ _ _ _ _ 11 (Array.replicate 11 false) _ wy.drew
                              rw [hwd]
                              clear hwd
                              have HSS : Hid (Chg (fun _ => False) wd wd) := Lib.hid (Chg.refl _ _)
                              (refine late_read (i := 0) rfl (by kernel_rfl) (fun _ _ _ _ h => h) rfl HSS.out (fun K hK => ?_); apply Exists.intro; refine ⟨fun w' hC => ?_, ?_⟩; ((skip); go_simp; try with_reducible rfl); (try go_simp); refine hK _ ?_; clear hK K)
                              (refine late_read (i := 1) rfl (by kernel_rfl) (fun _ _ _ _ h => h) rfl HSS.out (fun K hK => ?_); apply Exists.intro; refine ⟨fun w' hC => ?_, ?_⟩; ((have o0 := (HDD.out.trans hC).cellS HOBY.out.1 (fun h => h)); go_simp; try with_reducible rfl); (try go_simp); refine hK _ ?_; clear hK K)
                              (refine late_read (i := 2) rfl (by kernel_rfl) (fun _ _ _ _ h => h) rfl HSS.out (fun K hK => ?_); apply Exists.intro; refine ⟨fun w' hC => ?_, ?_⟩; ((skip); go_simp; try with_reducible rfl); (try go_simp); refine hK _ ?_; clear hK K)
                              (refine late_read (i := 3) rfl (by kernel_rfl) (fun _ _ _ _ h => h) rfl HSS.out (fun K hK => ?_); apply Exists.intro; refine ⟨fun w' hC => ?_, ?_⟩; ((obtain ⟨q0, q1, q2, q3⟩ := HT3.out w' (HCXY.out.trans (HDD.out.trans hC).any)); go_simp; try with_reducible rfl); (try go_simp); refine hK _ ?_; clear hK K)
                              (refine late_read (i := 4) rfl (by kernel_rfl) (fun _ _ _ _ h => h) rfl HSS.out (fun K hK => ?_); apply Exists.intro; refine ⟨fun w' hC => ?_, ?_⟩; ((skip); go_simp; try with_reducible rfl); (try go_simp); refine hK _ ?_; clear hK K)
                              (refine late_read (i := 5) rfl (by kernel_rfl) (fun _ _ _ _ h => h) rfl HSS.out (fun K hK => ?_); apply Exists.intro; refine ⟨fun w' hC => ?_, ?_⟩; ((skip); go_simp; try with_reducible rfl); (try go_simp); refine hK _ ?_; clear hK K)
                              (refine late_read (i := 6) rfl (by kernel_rfl) (fun _ _ _ _ h => h) rfl HSS.out (fun K hK => ?_); apply Exists.intro; refine ⟨fun w' hC => ?_, ?_⟩; ((have r0 := (HDD.out.trans hC).cellS HRLY.out.1 (fun h => h); have r1 := (HDD.out.trans hC).cellS HRLY.out.2 (fun h => h)); go_simp; try with_reducible rfl); (try go_simp); refine hK _ ?_; clear hK K)
                              (refine late_turn (i := 7) (by kernel_rfl) rfl rfl (fun K hK => ?_); apply Exists.intro; apply Exists.intro; refine ⟨?_, ?_, ?_⟩; ((skip); go_simp; try first | with_reducible rfl | exact ⟨rfl, rfl⟩); (exact fun _ => (Chg.refl _ _).alloc _); (try go_simp); refine hK _ _ ?_; clear hK K)
                              obtain ⟨w6, hw6⟩ : ∃ W6, W6 = wd.alloc (.cells #[.int .i32 x, .int .i32 y] 54) := ⟨_, rfl⟩
                              have HC6 : Hid (Chg (fun _ => False) wd w6) := Lib.hid (by rw [hw6]; exact (Chg.refl _ _).alloc _)
                              have HSRC : Hid (Src Try.prog rngE.sz rngE.sl (.slice (some ⟨wd.heap.size, 0, none⟩) 1 1) 1 (rngE.encs [(x, y)]) w6) := Lib.hid (by rw [hw6]; exact rngE.srcLit (Y := [(x, y)]) 1 HRY.out)
                              have HP6 := Lib.hid (HPD.out.same HC6.out)
                              have HB6 : Hid (wp2.heap.size ≤ w6.heap.size) := Lib.hid (by have := HBY.out; have := (HDD.out.trans HC6.out).size; omega)
                              rw [← hw6]
                              clear hw6
                              refine late_append (i := 8) (by kernel_rfl) rfl rfl (.tmp 228) (.tmp 234) 22 22 rfl (.slice ar 0 cr) (.slice (some ⟨wd.heap.size, 0, none⟩) 1 1) rfl rfl (fun v' w1 => rngE.Own w1 wp2.heap.size v' (([] : List (Int × Int)) ++ [(x, y)]) ∧ Chg (fun k => (Value.slice ar 0 cr).ownBlock = some k) w6 w1 ∧ (v'.ownBlock = (Value.slice ar 0 cr).ownBlock ∨ v'.ownBlock = some w6.heap.size) ∧ ∃ a n c, v' = .slice a n c) ?_ ?_
                              · obtain ⟨v', w1, hrun, h1, h2, ⟨h3, h4⟩, -⟩ := HP6.out.r.own.append HB6.out 22 (.slice (some ⟨wd.heap.size, 0, none⟩) 1 1) [(x, y)] HSRC.out HRY.out (by have h1 := HLEN.out; first | (simp; done) | (simp at h1 ⊢; omega)) 22
                                exact ⟨v', w1, hrun, (fun h => absurd h (by decide)), h1, h3, h4, h1.shape3⟩
                              rintro v' w1' - ⟨h1, h2, h3, va', vn', vc', rfl⟩ K hK
                              obtain ⟨⟨k1, k2⟩, hfin⟩ := HP6.out.rng h1 h2 h3
                              have HFIN := Lib.hid hfin
                              have HCF : Hid (Chg (fun k => k = bo ∨ wp2.heap.size ≤ k) wp2 (w1'.setCell ⟨bo, 0, none⟩ (.slice va' vn' vc'))) := Lib.hid ((HCXY.out.trans (HDD.out.trans HC6.out).any).trans ((h2.mono (fun k _ e => .inr (HP6.out.r.own.blk e).1)).trans ((setCellChg w1' bo 0 _).mono (fun k _ e => .inl e))))
                              clear h1 h2 h3 hfin
                              (try go_simp)
                              refine hK _ ?_
                              clear hK K
                              (refine late_turn (i := 9) (by kernel_rfl) rfl rfl (fun K hK => ?_); apply Exists.intro; apply Exists.intro; refine ⟨?_, ?_, ?_⟩; ((skip); go_simp; try first | with_reducible rfl | exact ⟨rfl, rfl⟩); (exact fun h => absurd h (by decide)); (try go_simp); refine hK _ _ ?_; clear hK K)
                              (refine late_store (i := 10) (by kernel_rfl) rfl rfl (fun K hK => ?_); apply Exists.intro; refine ⟨?_, (fun h => absurd h (by decide)), ?_⟩; ((skip); go_simp; try first | with_reducible rfl | exact ⟨rfl, rfl⟩); (try go_simp); refine hK _ _ ?_; clear hK K)
                              refine late_done (by kernel_rfl) ?_ _
                              clear k1 k2
                              obtain ⟨w7, hw7⟩ : ∃ x, x = w1'.setCell ⟨bo, 0, none⟩ (.slice va' vn' vc') := ⟨_, rfl⟩
                              rw [← hw7] at HFIN HCF ⊢
                              clear hw7
                              have o1 := HFIN.out.c1
                              have HB7 : Hid (wp2.heap.size ≤ w7.heap.size) := Lib.hid HCF.out.size
                              have HP8 := Lib.hid (HFIN.out.same ((Chg.refl (fun _ => False) w7).alloc (.cells #[.int .i64 (cols.length : Int)] 3)))
                              have HA8 := Lib.hid (fun (v' : Value) (w' : World) (h1 : intE.Own w' wp2.heap.size v' (([] : List Int) ++ [((cols.length : Int) : Int)])) h2 h3 => HP8.out.cls (vk' := v') h1 h2 h3)
                              go_wp2_with (at_builtin; refine Elt.wpList_append2 intE rfl _ _ 23 23 rfl rfl wp2.heap.size (.slice ak 0 ck) ([] : List Int) [((cols.length : Int) : Int)] (.slice (some ⟨w7.heap.size, 0, none⟩) 1 1) rfl rfl HP8.out.k.own (by have := HB7.out; simp; omega) (intE.srcLit (Y := [((cols.length : Int) : Int)]) 1 HYC.out) HYC.out (by have h1 := HLEN2.out; first | (simp; done) | (simp at h1 ⊢; omega)) ?_; intro v' w9 HO9 HC9 HC9b; obtain ⟨⟨k1, k2⟩, hfin⟩ := HA8.out v' w9 HO9.out HC9b.out.1 HC9b.out.2; obtain ⟨va9, vn9, vc9, hv9⟩ := HO9.out.shape3; subst hv9; have HFIN9 := Lib.hid hfin; clear hfin)
                              have HZN : Hid (zK t o (k + 1) = ((cols ++ [colT t o (cc2 : Int)]), ([] : List (Int × Int)) ++ [(x, y)], ([] : List Int) ++ [((cols.length : Int) : Int)])) := Lib.hid (by
                                rw [zK_step HRK.out.1 HRK.out.2, HZ.out]
                                unfold foldCol
                                rw [if_neg (by rw [HNEG.out]; decide)]
                                rw [if_pos (by rw [HIDX.out]; decide)]
                                unfold mrg
                                rw [if_neg (by simp)])
                              have HF9 := Lib.hid (HFIN9.out.z HZN.out)
                              have HC99 : Hid (Chg (fun k => k = bo ∨ wp2.heap.size ≤ k) wp2 (w9.setCell ⟨bo, 1, none⟩ (.slice va9 vn9 vc9))) := Lib.hid ((HCF.out.trans ((Chg.refl _ _).alloc _)).trans ((HC9.out.mono (fun k _ e => .inr e)).trans ((setCellChg w9 bo 1 _).mono (fun k _ e => .inl e))))
                              clear k1 k2 HO9 HC9 HC9b HFIN HFIN9 HP8 HA8 HPD HP6 HPY o1
                              go_roundw
                              case rel => exact ⟨k + 1, _, _, _, by omega, by go_num, HF9.out, HC99.out⟩
                              case measure => simp [intOf]; omega
                            · skip
                              obtain ⟨R', p, rfl⟩ : ∃ R' p, R = R' ++ [p] := ⟨R.dropLast, R.getLast hRe, (List.dropLast_concat_getLast hRe).symm⟩
                              obtain ⟨C', dl, rfl⟩ : ∃ C' dl, C = C' ++ [dl] := by
                                have hne : C ≠ [] := fun e => by rw [e] at hCR; simp at hCR
                                exact ⟨C.dropLast, C.getLast hne, (List.dropLast_concat_getLast hne).symm⟩
                              have hCR2 : C'.length = R'.length := by simpa using hCR
                              have HCR := Lib.hid hCR2
                              obtain ⟨gR, hgR⟩ : ∃ gR, ar = some ⟨gR, 0, none⟩ := by
                                obtain ⟨a', g', c', h1, h2, h3, h4⟩ := HPX.out.r.own.at'
                                injection h1 with e1
                                exact ⟨g', e1.trans (h4 (by simp)).1⟩
                              subst hgR
                              obtain ⟨gK, hgK⟩ : ∃ gK, ak = some ⟨gK, 0, none⟩ := by
                                obtain ⟨a', g', c', h1, h2, h3, h4⟩ := HPX.out.k.own.at'
                                injection h1 with e1
                                exact ⟨g', e1.trans (h4 (by simp)).1⟩
                              subst hgK
                              have hpin := HPX.out.r.own.in' (c' := (R' ++ [p]).length) (Nat.le_refl _)
                              have hpok : okRng p := hpin.ok p (by simp)
                              have HLAST : Hid (wx.cell? ⟨gK, C'.length, none⟩ = some (.int .i64 dl) ∧ wx.cell? ⟨gR, C'.length * 2 + 1, none⟩ = some (.int .i32 p.2)) := Lib.hid (by
                                refine ⟨?_, ?_⟩
                                · obtain ⟨xx, g', o', hx, ha, hcell, -⟩ := (HPX.out.k.own.in' (c' := (C' ++ [dl]).length) (Nat.le_refl _)).getI (k := C'.length) (by simp)
                                  have hg0 : o' = 0 ∧ gK = g' := by
                                    injection ha with ha
                                    injection ha with e1 e2
                                    exact ⟨e2.symm, e1⟩
                                  obtain ⟨rfl, rfl⟩ := hg0
                                  simp at hx
                                  subst hx
                                  rw [Nat.zero_add] at hcell
                                  exact hcell
                                · have := (HPX.out.high (R' := R') (p := p) rfl (x := p.2) hpok).1.1
                                  rw [hCR2]
                                  exact this)
                              obtain ⟨⟨pl1, pl2⟩, ph1, ph2⟩ := hpok
                              have HPL : Hid ((R' ++ [p]).length = C'.length + 1 ∧ (C' ++ [dl]).length = C'.length + 1) := Lib.hid ⟨by simp [hCR2], by simp⟩
                              rw [HPL.out.1, HPL.out.2] at HPX
                              rw [HPL.out.1, HPL.out.2] at HOB
                              have l3 : C'.length ≤ 1000000000 := by have h1 := HLEN2.out; simp at h1; omega
                              have w1 : IntKind.i64.wrap p.2 = p.2 := by rw [IntKind.wrap_i64]; omega
                              have w2 : IntKind.i64.wrap (p.2 + 1) = p.2 + 1 := by rw [IntKind.wrap_i64]; omega
                              have w3 : IntKind.i64.wrap x = x := by rw [IntKind.wrap_i64]; omega
                              have l4 : (C'.length : Int) < (C'.length : Int) + 1 := by omega
                              clear hRe hCR hpin hCR2
                              by_cases hdc : dl = (cols.length : Int)
                              · exact absurd (HCLS.out dl (by simp)).2 (by rw [hdc]; omega)
                              · have d50 : (dl == (cols.length : Int)) = false := by simpa using hdc
                                obtain ⟨o0, o1⟩ := HOB.out
                                go_upto_region 50 with (fail)
                                clear o0 o1
                                refine wp_region_same (fun w' => Chg (fun _ => False) wx w') (by kernel_rfl) (by kernel_rfl) ?_ ?_
                                · exact (Chg.refl _ _).drew
                                (refine wpC_read rfl (fun _ _ _ h => h) (fun K hK => ?_); apply Exists.intro; refine ⟨fun _ w' _ hC => ?_, ?_⟩; ((skip); go_simp; try with_reducible rfl); (try go_simp); refine hK _ ?_; clear hK K); (refine wpC_read rfl (fun _ _ _ h => h) (fun K hK => ?_); apply Exists.intro; refine ⟨fun _ w' _ hC => ?_, ?_⟩; ((skip); go_simp; try with_reducible rfl); (try go_simp); refine hK _ ?_; clear hK K); (refine wpC_read rfl (fun _ _ _ h => h) (fun K hK => ?_); apply Exists.intro; refine ⟨fun _ w' _ hC => ?_, ?_⟩; ((skip); go_simp; try with_reducible rfl); (try go_simp); refine hK _ ?_; clear hK K); (refine wpC_read rfl (fun _ _ _ h => h) (fun K hK => ?_); apply Exists.intro; refine ⟨fun _ w' _ hC => ?_, ?_⟩; ((skip); go_simp; try with_reducible rfl); (try go_simp); refine hK _ ?_; clear hK K); (refine wpC_read rfl (fun _ _ _ h => h) (fun K hK => ?_); apply Exists.intro; refine ⟨fun _ w' _ hC => ?_, ?_⟩; ((obtain ⟨q0, q1, q2, q3⟩ := HT3.out w' (HCX.out.trans hC.any); have o0 := hC.cellS HOB.out.1 (fun h => h); have o1 := hC.cellS HOB.out.2 (fun h => h); have e1 := hC.cellS HLAST.out.1 (fun h => h); have e2 := hC.cellS HLAST.out.2 (fun h => h)); go_simp; try with_reducible rfl); (try go_simp); refine hK _ ?_; clear hK K); (refine wpC_read rfl (fun _ _ _ h => h) (fun K hK => ?_); apply Exists.intro; refine ⟨fun _ w' _ hC => ?_, ?_⟩; ((skip); go_simp; try with_reducible rfl); (try go_simp); refine hK _ ?_; clear hK K); (refine wpC_read rfl (fun _ _ _ h => h) (fun K hK => ?_); apply Exists.intro; refine ⟨fun _ w' _ hC => ?_, ?_⟩; ((skip); go_simp; try with_reducible rfl); (try go_simp); refine hK _ ?_; clear hK K); (refine wpC_read rfl (fun _ _ _ h => h) (fun K hK => ?_); apply Exists.intro; refine ⟨fun _ w' _ hC => ?_, ?_⟩; ((obtain ⟨q0, q1, q2, q3⟩ := HT3.out w' (HCX.out.trans hC.any); have o0 := hC.cellS HOB.out.1 (fun h => h); have o1 := hC.cellS HOB.out.2 (fun h => h); have e1 := hC.cellS HLAST.out.1 (fun h => h); have e2 := hC.cellS HLAST.out.2 (fun h => h)); go_simp; try with_reducible rfl); (try go_simp); refine hK _ ?_; clear hK K); (refine wpC_read rfl (fun _ _ _ h => h) (fun K hK => ?_); apply Exists.intro; refine ⟨fun _ w' _ hC => ?_, ?_⟩; ((skip); go_simp; try with_reducible rfl); (try go_simp); refine hK _ ?_; clear hK K); (refine wpC_read rfl (fun _ _ _ h => h) (fun K hK => ?_); apply Exists.intro; refine ⟨fun _ w' _ hC => ?_, ?_⟩; ((skip); go_simp; try with_reducible rfl); (try go_simp); refine hK _ ?_; clear hK K); (refine wpC_read rfl (fun _ _ _ h => h) (fun K hK => ?_); apply Exists.intro; refine ⟨fun _ w' _ hC => ?_, ?_⟩; ((skip); go_simp; try with_reducible rfl); (try go_simp); refine hK _ ?_; clear hK K); (refine wpC_read rfl (fun _ _ _ h => h) (fun K hK => ?_); apply Exists.intro; refine ⟨fun _ w' _ hC => ?_, ?_⟩; ((skip); go_simp; try with_reducible rfl); (try go_simp); refine hK _ ?_; clear hK K); (refine wpC_skip rfl (fun _ _ _ h => h) (fun K hK => ?_); (try go_simp); refine hK _ ?_; clear hK K); (refine wpC_skip rfl (fun _ _ _ h => h) (fun K hK => ?_); (try go_simp); refine hK _ ?_; clear hK K); (refine wpC_skip rfl (fun _ _ _ h => h) (fun K hK => ?_); (try go_simp); refine hK _ ?_; clear hK K); (refine wpC_skip rfl (fun _ _ _ h => h) (fun K hK => ?_); (try go_simp); refine hK _ ?_; clear hK K); (refine wpC_skip rfl (fun _ _ _ h => h) (fun K hK => ?_); (try go_simp); refine hK _ ?_; clear hK K); (refine wpC_skip rfl (fun _ _ _ h => h) (fun K hK => ?_); (try go_simp); refine hK _ ?_; clear hK K); (refine wpC_skip rfl (fun _ _ _ h => h) (fun K hK => ?_); (try go_simp); refine hK _ ?_; clear hK K); (refine wpC_skip rfl (fun _ _ _ h => h) (fun K hK => ?_); (try go_simp); refine hK _ ?_; clear hK K); (refine wpC_skip rfl (fun _ _ _ h => h) (fun K hK => ?_); (try go_simp); refine hK _ ?_; clear hK K); (refine wpC_skip rfl (fun _ _ _ h => h) (fun K hK => ?_); (try go_simp); refine hK _ ?_; clear hK K); (refine wpC_skip rfl (fun _ _ _ h => h) (fun K hK => ?_); (try go_simp); refine hK _ ?_; clear hK K); (refine wpC_skip rfl (fun _ _ _ h => h) (fun K hK => ?_); (try go_simp); refine hK _ ?_; clear hK K); (refine wpC_skip rfl (fun _ _ _ h => h) (fun K hK => ?_); (try go_simp); refine hK _ ?_; clear hK K); (refine wpC_skip rfl (fun _ _ _ h => h) (fun K hK => ?_); (try go_simp); refine hK _ ?_; clear hK K); (refine wpC_skip rfl (fun _ _ _ h => h) (fun K hK => ?_); (try go_simp); refine hK _ ?_; clear hK K); (refine wpC_skip rfl (fun _ _ _ h => h) (fun K hK => ?_); (try go_simp); refine hK _ ?_; clear hK K); (refine wpC_read rfl (fun _ _ _ h => h) (fun K hK => ?_); apply Exists.intro; refine ⟨fun _ w' _ hC => ?_, ?_⟩; ((skip); go_simp; try with_reducible rfl); (try go_simp); refine hK _ ?_; clear hK K)
                                refine wpC_nil ?_
                                intro wy hCy
                                have HCY := Lib.hid hCy
                                clear hCy
                                have HPY := Lib.hid (HPX.out.same HCY.out)
                                have HCXY := Lib.hid (HCX.out.trans HCY.out.any)
                                have HRLY := Lib.hid (show _ ∧ _ from ⟨HCY.out.cellS HRL.out.1 (fun h => h), HCY.out.cellS HRL.out.2 (fun h => h)⟩)
                                have HOBY := Lib.hid (show _ ∧ _ from ⟨HCY.out.cellS HOB.out.1 (fun h => h), HCY.out.cellS HOB.out.2 (fun h => h)⟩)
                                have HBY : Hid (wp2.heap.size ≤ wy.heap.size ∧ bo < wy.heap.size) := Lib.hid (by have h1 := HCXY.out.size; have h2 := HPY.out.lt; exact ⟨h1, h2⟩)
                                go_upto_region 52 with (fail)
                                obtain ⟨wd, hwd⟩ : ∃ x, wy.drew = x := ⟨_, rfl⟩
                                have HDD : Hid (Chg (fun _ => False) wy wd) := Lib.hid (by rw [← hwd]; exact (Chg.refl _ _).drew)
                                have HPD := Lib.hid (HPY.out.same HDD.out)
                                refine wp_region_late (fun x => Chg (fun _ => False) wd x) (fun i => decide (8 ≤ i)) (by kernel_rfl) ?_
                                show wpAnyL _ _ _ _ _ _ 11 (Array.replicate 11 false) _ wy.drew
                                rw [hwd]
                                clear hwd
                                have HSS : Hid (Chg (fun _ => False) wd wd) := Lib.hid (Chg.refl _ _)
                                (refine late_read (i := 0) rfl (by kernel_rfl) (fun _ _ _ _ h => h) rfl HSS.out (fun K hK => ?_); apply Exists.intro; refine ⟨fun w' hC => ?_, ?_⟩; ((skip); go_simp; try with_reducible rfl); (try go_simp); refine hK _ ?_; clear hK K)
                                (refine late_read (i := 1) rfl (by kernel_rfl) (fun _ _ _ _ h => h) rfl HSS.out (fun K hK => ?_); apply Exists.intro; refine ⟨fun w' hC => ?_, ?_⟩; ((have o0 := (HDD.out.trans hC).cellS HOBY.out.1 (fun h => h)); go_simp; try with_reducible rfl); (try go_simp); refine hK _ ?_; clear hK K)
                                (refine late_read (i := 2) rfl (by kernel_rfl) (fun _ _ _ _ h => h) rfl HSS.out (fun K hK => ?_); apply Exists.intro; refine ⟨fun w' hC => ?_, ?_⟩; ((skip); go_simp; try with_reducible rfl); (try go_simp); refine hK _ ?_; clear hK K)
                                (refine late_read (i := 3) rfl (by kernel_rfl) (fun _ _ _ _ h => h) rfl HSS.out (fun K hK => ?_); apply Exists.intro; refine ⟨fun w' hC => ?_, ?_⟩; ((obtain ⟨q0, q1, q2, q3⟩ := HT3.out w' (HCXY.out.trans (HDD.out.trans hC).any)); go_simp; try with_reducible rfl); (try go_simp); refine hK _ ?_; clear hK K)
                                (refine late_read (i := 4) rfl (by kernel_rfl) (fun _ _ _ _ h => h) rfl HSS.out (fun K hK => ?_); apply Exists.intro; refine ⟨fun w' hC => ?_, ?_⟩; ((skip); go_simp; try with_reducible rfl); (try go_simp); refine hK _ ?_; clear hK K)
                                (refine late_read (i := 5) rfl (by kernel_rfl) (fun _ _ _ _ h => h) rfl HSS.out (fun K hK => ?_); apply Exists.intro; refine ⟨fun w' hC => ?_, ?_⟩; ((skip); go_simp; try with_reducible rfl); (try go_simp); refine hK _ ?_; clear hK K)
                                (refine late_read (i := 6) rfl (by kernel_rfl) (fun _ _ _ _ h => h) rfl HSS.out (fun K hK => ?_); apply Exists.intro; refine ⟨fun w' hC => ?_, ?_⟩; ((have r0 := (HDD.out.trans hC).cellS HRLY.out.1 (fun h => h); have r1 := (HDD.out.trans hC).cellS HRLY.out.2 (fun h => h)); go_simp; try with_reducible rfl); (try go_simp); refine hK _ ?_; clear hK K)
                                (refine late_turn (i := 7) (by kernel_rfl) rfl rfl (fun K hK => ?_); apply Exists.intro; apply Exists.intro; refine ⟨?_, ?_, ?_⟩; ((skip); go_simp; try first | with_reducible rfl | exact ⟨rfl, rfl⟩); (exact fun _ => (Chg.refl _ _).alloc _); (try go_simp); refine hK _ _ ?_; clear hK K)
                                obtain ⟨w6, hw6⟩ : ∃ W6, W6 = wd.alloc (.cells #[.int .i32 x, .int .i32 y] 54) := ⟨_, rfl⟩
                                have HC6 : Hid (Chg (fun _ => False) wd w6) := Lib.hid (by rw [hw6]; exact (Chg.refl _ _).alloc _)
                                have HSRC : Hid (Src Try.prog rngE.sz rngE.sl (.slice (some ⟨wd.heap.size, 0, none⟩) 1 1) 1 (rngE.encs [(x, y)]) w6) := Lib.hid (by rw [hw6]; exact rngE.srcLit (Y := [(x, y)]) 1 HRY.out)
                                have HP6 := Lib.hid (HPD.out.same HC6.out)
                                have HB6 : Hid (wp2.heap.size ≤ w6.heap.size) := Lib.hid (by have := HBY.out; have := (HDD.out.trans HC6.out).size; omega)
                                rw [← hw6]
                                clear hw6
                                refine late_append (i := 8) (by kernel_rfl) rfl rfl (.tmp 228) (.tmp 234) 22 22 rfl (.slice (some ⟨gR, 0, none⟩) (C'.length + 1) cr) (.slice (some ⟨wd.heap.size, 0, none⟩) 1 1) rfl rfl (fun v' w1 => rngE.Own w1 wp2.heap.size v' ((R' ++ [p]) ++ [(x, y)]) ∧ Chg (fun k => (Value.slice (some ⟨gR, 0, none⟩) (C'.length + 1) cr).ownBlock = some k) w6 w1 ∧ (v'.ownBlock = (Value.slice (some ⟨gR, 0, none⟩) (C'.length + 1) cr).ownBlock ∨ v'.ownBlock = some w6.heap.size) ∧ ∃ a n c, v' = .slice a n c) ?_ ?_
                                · obtain ⟨v', w1, hrun, h1, h2, ⟨h3, h4⟩, -⟩ := HP6.out.r.own.append HB6.out 22 (.slice (some ⟨wd.heap.size, 0, none⟩) 1 1) [(x, y)] HSRC.out HRY.out (by have h1 := HLEN.out; first | (simp; done) | (simp at h1 ⊢; omega)) 22
                                  exact ⟨v', w1, hrun, (fun h => absurd h (by decide)), h1, h3, h4, h1.shape3⟩
                                rintro v' w1' - ⟨h1, h2, h3, va', vn', vc', rfl⟩ K hK
                                obtain ⟨⟨k1, k2⟩, hfin⟩ := HP6.out.rng h1 h2 h3
                                have HFIN := Lib.hid hfin
                                have HCF : Hid (Chg (fun k => k = bo ∨ wp2.heap.size ≤ k) wp2 (w1'.setCell ⟨bo, 0, none⟩ (.slice va' vn' vc'))) := Lib.hid ((HCXY.out.trans (HDD.out.trans HC6.out).any).trans ((h2.mono (fun k _ e => .inr (HP6.out.r.own.blk e).1)).trans ((setCellChg w1' bo 0 _).mono (fun k _ e => .inl e))))
                                clear h1 h2 h3 hfin
                                (try go_simp)
                                refine hK _ ?_
                                clear hK K
                                (refine late_turn (i := 9) (by kernel_rfl) rfl rfl (fun K hK => ?_); apply Exists.intro; apply Exists.intro; refine ⟨?_, ?_, ?_⟩; ((skip); go_simp; try first | with_reducible rfl | exact ⟨rfl, rfl⟩); (exact fun h => absurd h (by decide)); (try go_simp); refine hK _ _ ?_; clear hK K)
                                (refine late_store (i := 10) (by kernel_rfl) rfl rfl (fun K hK => ?_); apply Exists.intro; refine ⟨?_, (fun h => absurd h (by decide)), ?_⟩; ((skip); go_simp; try first | with_reducible rfl | exact ⟨rfl, rfl⟩); (try go_simp); refine hK _ _ ?_; clear hK K)
                                refine late_done (by kernel_rfl) ?_ _
                                clear k1 k2
                                obtain ⟨w7, hw7⟩ : ∃ x, x = w1'.setCell ⟨bo, 0, none⟩ (.slice va' vn' vc') := ⟨_, rfl⟩
                                rw [← hw7] at HFIN HCF ⊢
                                clear hw7
                                have o1 := HFIN.out.c1
                                have HB7 : Hid (wp2.heap.size ≤ w7.heap.size) := Lib.hid HCF.out.size
                                have HP8 := Lib.hid (HFIN.out.same ((Chg.refl (fun _ => False) w7).alloc (.cells #[.int .i64 (cols.length : Int)] 3)))
                                have HA8 := Lib.hid (fun (v' : Value) (w' : World) (h1 : intE.Own w' wp2.heap.size v' ((C' ++ [dl]) ++ [((cols.length : Int) : Int)])) h2 h3 => HP8.out.cls (vk' := v') h1 h2 h3)
                                go_wp2_with (at_builtin; refine Elt.wpList_append2 intE rfl _ _ 23 23 rfl rfl wp2.heap.size (.slice (some ⟨gK, 0, none⟩) (C'.length + 1) ck) (C' ++ [dl]) [((cols.length : Int) : Int)] (.slice (some ⟨w7.heap.size, 0, none⟩) 1 1) rfl rfl HP8.out.k.own (by have := HB7.out; simp; omega) (intE.srcLit (Y := [((cols.length : Int) : Int)]) 1 HYC.out) HYC.out (by have h1 := HLEN2.out; first | (simp; done) | (simp at h1 ⊢; omega)) ?_; intro v' w9 HO9 HC9 HC9b; obtain ⟨⟨k1, k2⟩, hfin⟩ := HA8.out v' w9 HO9.out HC9b.out.1 HC9b.out.2; obtain ⟨va9, vn9, vc9, hv9⟩ := HO9.out.shape3; subst hv9; have HFIN9 := Lib.hid hfin; clear hfin)
                                have HZN : Hid (zK t o (k + 1) = ((cols ++ [colT t o (cc2 : Int)]), (R' ++ [p]) ++ [(x, y)], (C' ++ [dl]) ++ [((cols.length : Int) : Int)])) := Lib.hid (by
                                  rw [zK_step HRK.out.1 HRK.out.2, HZ.out]
                                  unfold foldCol
                                  rw [if_neg (by rw [HNEG.out]; decide)]
                                  rw [if_pos (by rw [HIDX.out]; decide)]
                                  unfold mrg
                                  rw [if_neg (by simp; intro h; exact absurd h hdc)])
                                have HF9 := Lib.hid (HFIN9.out.z HZN.out)
                                have HC99 : Hid (Chg (fun k => k = bo ∨ wp2.heap.size ≤ k) wp2 (w9.setCell ⟨bo, 1, none⟩ (.slice va9 vn9 vc9))) := Lib.hid ((HCF.out.trans ((Chg.refl _ _).alloc _)).trans ((HC9.out.mono (fun k _ e => .inr e)).trans ((setCellChg w9 bo 1 _).mono (fun k _ e => .inl e))))
                                clear k1 k2 HO9 HC9 HC9b HFIN HFIN9 HP8 HA8 HPD HP6 HPY o1
                                go_roundw
                                case rel => exact ⟨k + 1, _, _, _, by omega, by go_num, HF9.out, HC99.out⟩
                                case measure => simp [intOf]; omega
                            -- @dev}
              · obtain rfl : k = t.r.length := by omega
                have b2 : ¬ t.r.length < t.r.length := by omega
                have HZA : Hid (leastZ t o = (cols, R, C)) := Lib.hid (by rw [← zK_all HCLEN.out]; exact HZ.out)
                have HLT : Hid (leastT t = ⟨R, C, rowsI cols o.length, endsI t.e o⟩) := Lib.hid (by
                  unfold leastT mkT
                  rw [HOE.out, HZA.out]
                  rfl)
                obtain ⟨wp3, hwp3⟩ : ∃ x, x = wr := ⟨_, rfl⟩
                rw [← hwp3] at HPH HC q0 q1 q2 q3 ⊢
                clear hwp3
                have HB3 : Hid (bo < wp2.heap.size ∧ wp2.heap.size ≤ wp3.heap.size) := Lib.hid ⟨HPH.out.hb, HC.out.size⟩
                have HLI : Hid (∀ wx, Chg (fun k => k = bo ∨ wp3.heap.size ≤ k) wp3 wx → ListsIn wx wp2.heap.size (vca, cols.length, vcc) cols) := Lib.hid (fun wx hx => by
                  have h1 : Chg (fun k => k = bo) wp3 wx := hx.mono (fun k hk e => by omega)
                  exact HPH.out.cols.lists.chgB h1 (fun g hg e => by have := HB3.out; omega))
                have HC23' : Hid (∀ wx, Chg (fun k => k = bo ∨ wp3.heap.size ≤ k) wp3 wx → Chg (fun k => k = bo ∨ wp2.heap.size ≤ k) wp2 wx) := Lib.hid (fun wx hx => HC.out.trans (hx.mono (fun k _ e => by have := HB3.out; omega)))
                have HP3 : Hid (Ph3 wp3 wp3.heap.size bo (fun _ => 0) ((rowsI cols o.length).take 0) ((endsI t.e o).take 0) (.slice ar R.length cr) (.slice ak C.length ck) (.slice none 0 0) (.slice none 0 0)) := Lib.hid ⟨.nil _ _ _ _ _, .nil _ _ _ _ _, HPH.out.c0, HPH.out.c1, HPH.out.c2, HPH.out.c3, HPH.out.zz, by have := HB3.out; omega⟩
                go_wp2
                clear q0 q1 q2 q3
                go_loopw [23] (fun q wr => ∃ (i : Nat) (τ : Nat → Nat) (vn ve : Value), i ≤ o.length ∧ q = .int .i64 i ∧ Ph3 wr wp3.heap.size bo τ ((rowsI cols o.length).take i) ((endsI t.e o).take i) (.slice ar R.length cr) (.slice ak C.length ck) vn ve ∧ Chg (fun k => k = bo ∨ wp3.heap.size ≤ k) wp3 wr) (fun q _ => o.length - (intOf q).toNat)
                case atStart => exact ⟨0, _, _, _, by omega, rfl, HP3.out, Chg.refl _ _⟩
                case round =>
                  clear HP3
                  obtain ⟨i, τ3, vn, ve, hi, rfl, hp3, hc⟩ := hrel
                  obtain ⟨vna, vnc, rfl, hvnc⟩ := hp3.n.shape
                  obtain ⟨vea, vec, rfl, hvec⟩ := hp3.e.shape
                  have hnl : ((rowsI cols o.length).take i).length = i := by rw [List.length_take]; unfold rowsI; simp; omega
                  have hel2 : ((endsI t.e o).take i).length = i := by rw [List.length_take]; unfold endsI; simp; omega
                  rw [hnl] at hp3 hvnc
                  rw [hel2] at hp3 hvec
                  have HNL := Lib.hid (show _ ∧ _ from ⟨hnl, hel2⟩)
                  have HP3 := Lib.hid hp3
                  have HCI := Lib.hid hc
                  clear hp3 hc hnl hel2
                  by_cases hil : i < o.length
                  · have b5 : i < o.length := hil
                    obtain ⟨s, hs⟩ : ∃ s, o[i]? = some s := ⟨_, List.getElem?_eq_getElem hil⟩
                    have hsl := HORD.out.lt s (List.mem_of_getElem? hs)
                    have HS := Lib.hid hs
                    clear hs
                    obtain ⟨wq, hwq⟩ : ∃ x, x = wr := ⟨_, rfl⟩
                    rw [← hwq] at HP3 HCI ⊢
                    clear hwq
                    go_wp2
                    go_loopw [24, 25] (fun v q wr => ∃ (c : Nat), c ≤ cols.length ∧ q = .int .i64 c ∧ intE.Own wr wq.heap.size v ((rowI cols i).take c) ∧ Chg (fun _ => False) wq wr) (fun _ q _ => cols.length - (intOf q).toNat)
                    case atStart => exact ⟨0, by omega, rfl, .nil _ _, Chg.refl _ _⟩
                    case round =>
                      obtain ⟨c, hcl4, rfl, hown, hc⟩ := hrel
                      obtain ⟨vra, vrc, hv, hvrc, -⟩ := hown.clip
                      have hrl4 : ((rowI cols i).take c).length = c := by rw [List.length_take]; unfold rowI; simp; omega
                      rw [hrl4] at hv hvrc
                      subst hv
                      have HOWN := Lib.hid hown
                      have HCQ := Lib.hid hc
                      have HCW := Lib.hid (HCI.out.trans hc.any)
                      have HRL4 := Lib.hid hrl4
                      clear hown hc hrl4
                      by_cases hcl5 : c < cols.length
                      · have b6 : c < cols.length := hcl5
                        obtain ⟨l, gl, ol, la, lc, hl, hla, n0, hin, -, -⟩ := (HLI.out wr HCW.out).getIn hcl5
                        have hll := HCOL.out l (List.mem_of_getElem? hl)
                        obtain ⟨x, gx, ox, hx, hxa, c0, x0, x1, -, -⟩ := hin.getI (k := i) (by omega)
                        subst hla hxa
                        have b7 : i < l.length := by omega
                        have HTK : Hid ((rowI cols i).take (c + 1) = (rowI cols i).take c ++ [x]) := Lib.hid (rowI_take hl hx)
                        have HYB : Hid (∀ a ∈ [x], intE.ok a) := Lib.hid (fun a ha => by rw [List.mem_singleton] at ha; subst ha; exact ⟨x0, x1⟩)
                        have HSX : Hid (wq.heap.size ≤ wr.heap.size) := Lib.hid HCQ.out.size
                        have HLL := Lib.hid hll
                        clear hl hin hx hll
                        go_wp2_with (at_builtin; refine Elt.wpList_append2 intE rfl _ _ 23 23 rfl rfl wq.heap.size (.slice vra c vrc) ((rowI cols i).take c) [x] (.slice (some ⟨wr.heap.size, 0, none⟩) 1 1) rfl rfl (HOWN.out.chg ((Chg.refl (fun _ => False) _).alloc _) (fun _ _ _ h => h)) (by have := HSX.out; simp; omega) (intE.srcLit (Y := [x]) 1 HYB.out) HYB.out (by have h1 := HRL4.out; have h2 := HLEN3.out; rw [h1]; simp; omega) ?_; intro v' w5 HO5 HC5 HC5b)
                        have HOY : Hid (intE.Own w5 wq.heap.size v' ((rowI cols i).take (c + 1))) := Lib.hid (by rw [HTK.out]; exact HO5.out)
                        have HCY : Hid (Chg (fun _ => False) wq w5) := Lib.hid ((HCQ.out.any.trans (((Chg.refl (fun k => wq.heap.size ≤ k) _).alloc _).trans HC5.out)).fresh)
                        clear HO5 HC5 HC5b
                        go_roundw
                        case rel => exact ⟨c + 1, by omega, by go_num, HOY.out, HCY.out⟩
                        case measure => simp [intOf]; omega
                      · obtain rfl : c = cols.length := by omega
                        have b6 : ¬ cols.length < cols.length := by omega
                        have HTA : Hid ((rowI cols i).take cols.length = rowI cols i) := Lib.hid (by rw [List.take_of_length_le (by unfold rowI; simp)])
                        have HPM := Lib.hid (((HP3.out.mark (τ' := fun g => if wq.heap.size ≤ g then 1 else τ3 g) (fun g _ hg => by rw [if_neg (by omega)])).same HCQ.out).same ((Chg.refl (fun _ => False) wr).alloc (.cells #[.slice vra cols.length vrc] 23)))
                        obtain ⟨X, hX1, hX2, hX3⟩ := HPM.out.n.x
                        have HX := Lib.hid (show _ ∧ _ ∧ _ from ⟨hX1, hX2, hX3⟩)
                        have HROW : Hid (TOwn intE (wr.alloc (.cells #[.slice vra cols.length vrc] 23)) wp3.heap.size (fun g => if wq.heap.size ≤ g then 1 else τ3 g) 1 (slV (vra, cols.length, vrc)) (rowI cols i)) := Lib.hid (by
                          have h1 := HOWN.out.chg ((Chg.refl (fun _ => False) wr).alloc (.cells #[.slice vra cols.length vrc] 23)) (fun _ _ _ h => h)
                          rw [HTA.out] at h1
                          exact ⟨h1.lower HCI.out.size, fun g hg => by rw [if_pos (h1.blk hg).1]⟩)
                        have HBW : Hid (wp3.heap.size ≤ wr.heap.size) := Lib.hid HCW.out.size
                        have HA8 := Lib.hid (fun (v' : Value) (w' : World) (h1 : listE.Own w' wp3.heap.size v' (X ++ [(vra, cols.length, vrc)])) h2 h3 => HPM.out.row (vn' := v') HX.out.1 HX.out.2.1 HX.out.2.2 HROW.out h1 h2 h3)
                        have o2 := HPM.out.c2
                        have o2' : wr.cell? ⟨bo, 2, none⟩ = some (.slice vna i vnc) := ((HP3.out.same HCQ.out)).c2
                        clear hX1 hX2 hX3
                        go_upto_region 63 with (at_builtin; go_loud (refine Elt.wpList_append2 listE rfl _ _ 24 24 rfl rfl wp3.heap.size (.slice vna i vnc) X [(vra, cols.length, vrc)] (.slice (some ⟨wr.heap.size, 0, none⟩) 1 1) rfl rfl HX.out.1.own (by have := HBW.out; simp; omega) (listE.srcLit (Y := [(vra, cols.length, vrc)]) 1 (fun _ _ => trivial)) (fun _ _ => trivial) (by have h1 : X.length = i := HX.out.2.1.trans HNL.out.1; rw [h1]; simp; omega) ?_; intro v' wx HO5 HC5 HC5b; obtain ⟨⟨k1, k2⟩, hfin⟩ := HA8.out v' wx HO5.out HC5b.out.1 HC5b.out.2; obtain ⟨va9, vn9, vc9, hv9⟩ := HO5.out.shape3; subst hv9; have HFIN := Lib.hid hfin; clear hfin))
                        obtain ⟨w7, hw7⟩ : ∃ W, W = wx.setCell ⟨bo, 2, none⟩ (.slice va9 vn9 vc9) := ⟨_, rfl⟩
                        have HC7 : Hid (Chg (fun k => k = bo ∨ wp3.heap.size ≤ k) wp3 w7) := Lib.hid (by
                          rw [hw7]
                          exact (HCW.out.trans ((Chg.refl _ _).alloc _)).trans ((HC5.out.mono (fun k _ e => .inr e)).trans ((setCellChg wx bo 2 _).mono (fun k _ e => .inl e)))
                          )
                        rw [← hw7] at HFIN ⊢
                        clear hw7 k1 k2 o2 o2' HO5 HC5 HC5b HA8 HROW HX HPM HOWN HP3
                        have HP7 : Hid (Ph3 w7 wp3.heap.size bo _ ((rowsI cols o.length).take (i + 1)) ((endsI t.e o).take i) (.slice ar R.length cr) (.slice ak C.length ck) (.slice va9 vn9 vc9) (.slice vea i vec)) := Lib.hid (HFIN.out.ne (rowsI_take hil) rfl)
                        obtain ⟨es', ge, oe, hex, hea', ec0, ex0, ex1, -, -⟩ := (HTB3.out w7 (HC23'.out w7 HC7.out)).e.getI (k := s) (by have := HEL.out.1; omega)
                        subst hea'
                        obtain ⟨go, oo, hoa, c1⟩ : ∃ go oo, va = some ⟨go, oo, none⟩ ∧ w7.cell? ⟨go, oo + i, none⟩ = some (.int .i64 (s : Int)) := by
                          obtain ⟨x, g, o', hx, ha, hcell, -⟩ := (HO3.out w7 (HC23'.out w7 HC7.out)).getI (k := i) (by rw [natsI_len]; exact hil)
                          rw [natsI_get HS.out] at hx
                          obtain rfl := Option.some.inj hx
                          exact ⟨g, o', ha, hcell⟩
                        subst hoa
                        have hse : s < t.e.length := by have := HEL.out.1; omega
                        have HCC := Lib.hid (show _ ∧ _ from ⟨c1, ec0⟩)
                        have HTE : Hid ((endsI t.e o).take (i + 1) = (endsI t.e o).take i ++ [es']) := Lib.hid (endsI_take HS.out hex)
                        have HYB : Hid (∀ a ∈ [es'], intE.ok a) := Lib.hid (fun a ha => by rw [List.mem_singleton] at ha; subst ha; exact ⟨ex0, ex1⟩)
                        clear hex c1 ec0 HFIN
                        obtain ⟨wd, hwd⟩ : ∃ W, w7.drew = W := ⟨_, rfl⟩
                        have HDD : Hid (Chg (fun _ => False) w7 wd) := Lib.hid (by rw [← hwd]; exact (Chg.refl _ _).drew)
                        have HPD := Lib.hid (HP7.out.same HDD.out)
                        refine wp_region_late (fun x => Chg (fun _ => False) wd x) (fun i => decide (11 ≤ i)) (by kernel_rfl) ?_
                        show wpAnyL _ _ _ _ _ _ 14 (Array.replicate 14 false) _ w7.drew
                        rw [hwd]
                        clear hwd
                        have HSS : Hid (Chg (fun _ => False) wd wd) := Lib.hid (Chg.refl _ _)
                        (refine late_read (i := 0) rfl (by kernel_rfl) (fun _ _ _ _ h => h) rfl HSS.out (fun K hK => ?_); apply Exists.intro; refine ⟨fun w' hC => ?_, ?_⟩; ((skip); go_simp; try with_reducible rfl); (try go_simp); refine hK _ ?_; clear hK K)
                        (refine late_read (i := 1) rfl (by kernel_rfl) (fun _ _ _ _ h => h) rfl HSS.out (fun K hK => ?_); apply Exists.intro; refine ⟨fun w' hC => ?_, ?_⟩; ((have o3 := hC.cellS HPD.out.c3 (fun h => h)); go_simp; try with_reducible rfl); (try go_simp); refine hK _ ?_; clear hK K)
                        (refine late_read (i := 2) rfl (by kernel_rfl) (fun _ _ _ _ h => h) rfl HSS.out (fun K hK => ?_); apply Exists.intro; refine ⟨fun w' hC => ?_, ?_⟩; ((skip); go_simp; try with_reducible rfl); (try go_simp); refine hK _ ?_; clear hK K)
                        (refine late_read (i := 3) rfl (by kernel_rfl) (fun _ _ _ _ h => h) rfl HSS.out (fun K hK => ?_); apply Exists.intro; refine ⟨fun w' hC => ?_, ?_⟩; ((obtain ⟨q0, q1, q2, q3⟩ := HT3.out w' (HC23'.out w' (HC7.out.trans (HDD.out.trans hC).any))); go_simp; try with_reducible rfl); (try go_simp); refine hK _ ?_; clear hK K)
                        (refine late_read (i := 4) rfl (by kernel_rfl) (fun _ _ _ _ h => h) rfl HSS.out (fun K hK => ?_); apply Exists.intro; refine ⟨fun w' hC => ?_, ?_⟩; ((skip); go_simp; try with_reducible rfl); (try go_simp); refine hK _ ?_; clear hK K)
                        (refine late_read (i := 5) rfl (by kernel_rfl) (fun _ _ _ _ h => h) rfl HSS.out (fun K hK => ?_); apply Exists.intro; refine ⟨fun w' hC => ?_, ?_⟩; ((skip); go_simp; try with_reducible rfl); (try go_simp); refine hK _ ?_; clear hK K)
                        (refine late_read (i := 6) rfl (by kernel_rfl) (fun _ _ _ _ h => h) rfl HSS.out (fun K hK => ?_); apply Exists.intro; refine ⟨fun w' hC => ?_, ?_⟩; ((skip); go_simp; try with_reducible rfl); (try go_simp); refine hK _ ?_; clear hK K)
                        (refine late_read (i := 7) rfl (by kernel_rfl) (fun _ _ _ _ h => h) rfl HSS.out (fun K hK => ?_); apply Exists.intro; refine ⟨fun w' hC => ?_, ?_⟩; ((have c1 := (HDD.out.trans hC).cellS HCC.out.1 (fun h => h)); go_simp; try with_reducible rfl); (try go_simp); refine hK _ ?_; clear hK K)
                        (refine late_read (i := 8) rfl (by kernel_rfl) (fun _ _ _ _ h => h) rfl HSS.out (fun K hK => ?_); apply Exists.intro; refine ⟨fun w' hC => ?_, ?_⟩; ((skip); go_simp; try with_reducible rfl); (try go_simp); refine hK _ ?_; clear hK K)
                        (refine late_read (i := 9) rfl (by kernel_rfl) (fun _ _ _ _ h => h) rfl HSS.out (fun K hK => ?_); apply Exists.intro; refine ⟨fun w' hC => ?_, ?_⟩; ((have c2 := (HDD.out.trans hC).cellS HCC.out.2 (fun h => h)); go_simp; try with_reducible rfl); (try go_simp); refine hK _ ?_; clear hK K)
                        (refine late_turn (i := 10) (by kernel_rfl) rfl rfl (fun K hK => ?_); apply Exists.intro; apply Exists.intro; refine ⟨?_, ?_, ?_⟩; ((skip); go_simp; try first | with_reducible rfl | exact ⟨rfl, rfl⟩); (exact fun _ => (Chg.refl _ _).alloc _); (try go_simp); refine hK _ _ ?_; clear hK K)
                        obtain ⟨w6, hw6⟩ : ∃ W6, W6 = wd.alloc (.cells #[.int .i64 es'] 3) := ⟨_, rfl⟩
                        have HC6 : Hid (Chg (fun _ => False) wd w6) := Lib.hid (by rw [hw6]; exact (Chg.refl _ _).alloc _)
                        have HSRC : Hid (Src Try.prog intE.sz intE.sl (.slice (some ⟨wd.heap.size, 0, none⟩) 1 1) 1 (intE.encs [es']) w6) := Lib.hid (by rw [hw6]; exact intE.srcLit (Y := [es']) 1 HYB.out)
                        have HP6 := Lib.hid (HPD.out.same HC6.out)
                        have HB6 : Hid (wp3.heap.size ≤ w6.heap.size) := Lib.hid (by have h1 := HC7.out.size; have h2 := (HDD.out.trans HC6.out).size; omega)
                        rw [← hw6]
                        clear hw6
                        refine late_append (i := 11) (by kernel_rfl) rfl rfl (.tmp 272) (.tmp 281) 23 23 rfl (.slice vea i vec) (.slice (some ⟨wd.heap.size, 0, none⟩) 1 1) rfl rfl (fun v' w1 => intE.Own w1 wp3.heap.size v' ((endsI t.e o).take i ++ [es']) ∧ Chg (fun k => (Value.slice vea i vec).ownBlock = some k) w6 w1 ∧ (v'.ownBlock = (Value.slice vea i vec).ownBlock ∨ v'.ownBlock = some w6.heap.size) ∧ ∃ a n c, v' = .slice a n c) ?_ ?_
                        · obtain ⟨v', w1, hrun, h1, h2, ⟨h3, h4⟩, -⟩ := HP6.out.e.own.append HB6.out 23 (.slice (some ⟨wd.heap.size, 0, none⟩) 1 1) [es'] HSRC.out HYB.out (by rw [HNL.out.2]; simp; omega) 23
                          exact ⟨v', w1, hrun, (fun h => absurd h (by decide)), h1, h3, h4, h1.shape3⟩
                        rintro v' w1' - ⟨h1, h2, h3, va', vn', vc', rfl⟩ K hK
                        obtain ⟨⟨k1, k2⟩, hfin⟩ := HP6.out.fin h1 h2 h3
                        have HFIN := Lib.hid (hfin.ne rfl HTE.out)
                        have HCF : Hid (Chg (fun k => k = bo ∨ wp3.heap.size ≤ k) wp3 (w1'.setCell ⟨bo, 3, none⟩ (.slice va' vn' vc'))) := Lib.hid ((HC7.out.trans (HDD.out.trans HC6.out).any).trans ((h2.mono (fun k _ e => .inr (HP6.out.e.own.blk e).1)).trans ((setCellChg w1' bo 3 _).mono (fun k _ e => .inl e))))
                        clear h1 h2 h3 hfin
                        (try go_simp)
                        refine hK _ ?_
                        clear hK K
                        (refine late_turn (i := 12) (by kernel_rfl) rfl rfl (fun K hK => ?_); apply Exists.intro; apply Exists.intro; refine ⟨?_, ?_, ?_⟩; ((skip); go_simp; try first | with_reducible rfl | exact ⟨rfl, rfl⟩); (exact fun h => absurd h (by decide)); (try go_simp); refine hK _ _ ?_; clear hK K)
                        (refine late_store (i := 13) (by kernel_rfl) rfl rfl (fun K hK => ?_); apply Exists.intro; refine ⟨?_, (fun h => absurd h (by decide)), ?_⟩; ((skip); go_simp; try first | with_reducible rfl | exact ⟨rfl, rfl⟩); (try go_simp); refine hK _ _ ?_; clear hK K)
                        refine late_done (by kernel_rfl) ?_ _
                        clear k1 k2
                        go_wp2
                        go_roundw
                        case rel => exact ⟨i + 1, _, _, _, by omega, by go_num, HFIN.out, HCF.out⟩
                        case measure => simp [intOf]; omega
                  · obtain rfl : i = o.length := by omega
                    have b5 : ¬ o.length < o.length := by omega
                    have HNA : Hid ((rowsI cols o.length).take o.length = rowsI cols o.length ∧ (endsI t.e o).take o.length = endsI t.e o) := Lib.hid ⟨List.take_of_length_le (by unfold rowsI; simp), List.take_of_length_le (by unfold endsI; simp)⟩
                    have HCE := Lib.hid (HC23'.out wr HCI.out)
                    have HPE := HP3.out
                    rw [HNA.out.1, HNA.out.2] at HPE
                    have o0 := HPE.c0
                    have o1 := HPE.c1
                    have o2 := HPE.c2
                    have o3 := HPE.c3
                    have HPE := Lib.hid HPE
                    have HCR1 : Hid (Chg (fun k => w.heap.size + 2 ≤ k) wa wr) := Lib.hid ((HCP.out.mono (fun k _ e => by omega)).trans (HCE.out.mono (fun k _ e => by have := HB0.out; have := HBO.out; have := HSW2.out; omega)))
                    obtain ⟨⟨y0, y1, y2, y3⟩, y4⟩ := HR0.out wr HCR1.out
                    have z0 := y4 0
                    have z1 := y4 1
                    have z2 := y4 2
                    have z3 := y4 3
                    obtain ⟨s0, s1, s2, s3, hsc, -⟩ := store4 (.slice ar R.length cr) (.slice ak C.length ck) (.slice vna o.length vnc) (.slice vea o.length vec) y0 y1 y2 y3
                    have HSF := Lib.hid (show _ ∧ _ ∧ _ ∧ _ from ⟨s0, s1, s2, s3⟩)
                    have HFF : Hid (TabIn ((((wr.setCell ⟨w.heap.size + 1, 0, none⟩ (.slice ar R.length cr)).setCell ⟨w.heap.size + 1, 1, none⟩ (.slice ak C.length ck)).setCell ⟨w.heap.size + 1, 2, none⟩ (.slice vna o.length vnc)).setCell ⟨w.heap.size + 1, 3, none⟩ (.slice vea o.length vec)) 0 (ar, R.length, cr) (ak, C.length, ck) (vna, o.length, vnc) (vea, o.length, vec) (leastT t) ∧ Chg (fun _ => False) w ((((wr.setCell ⟨w.heap.size + 1, 0, none⟩ (.slice ar R.length cr)).setCell ⟨w.heap.size + 1, 1, none⟩ (.slice ak C.length ck)).setCell ⟨w.heap.size + 1, 2, none⟩ (.slice vna o.length vnc)).setCell ⟨w.heap.size + 1, 3, none⟩ (.slice vea o.length vec))) := Lib.hid (by
                      have hb := HB0.out
                      have hb3 := HB3.out
                      have hbo := HBO.out
                      have hst : Chg (fun k => k = bo) wp3 wr := HCI.out.mono (fun k hk e => by omega)
                      have hfar : ∀ g, wp2.heap.size ≤ g → ¬ g = bo := fun g hg e => by omega
                      have hfar2 : ∀ g, wp2.heap.size ≤ g → ¬ g = w.heap.size + 1 := fun g hg e => by omega
                      refine ⟨?_, ?_⟩
                      · rw [HLT.out]
                        refine TabIn.lower (B := wp2.heap.size) (TabIn.chgB ⟨?_, ?_, ?_, ?_⟩ hsc hfar2) (Nat.zero_le _)
                        · exact (HPH.out.r.own.in' (c' := cr) hcr).chgB hst hfar
                        · exact (HPH.out.k.own.in' (c' := ck) hck).chgB hst hfar
                        · exact (HPE.out.n.lists).lower hb3.2
                        · exact (HPE.out.e.own.in' (c' := vec) hvec).lower hb3.2
                      · exact ((HC0.out.any (S := fun k => w.heap.size ≤ k)).trans ((HCR1.out.mono (fun k _ e => by omega)).trans (hsc.mono (fun k _ e => by omega)))).fresh)
                    clear hsc s0 s1 s2 s3 y4 HP3 HPE
                    go_wp2
                    obtain ⟨s0, s1, s2, s3⟩ := HSF.out
                    exact bodyPost_ret (v := .tuple #[.agg #[.slice ar R.length cr, .slice ak C.length ck, .slice vna o.length vnc, .slice vea o.length vec], .int .i64 0]) (by simp [results, Try.results11, go_sem, s0, s1, s2, s3]) rfl (by unfold LeastPost; rw [if_pos HMY.out]; exact ⟨_, _, _, _, rfl, HFF.out.1, HFF.out.2⟩)
end Go.Proofs.Ytodohgckncnipaa
