/- A lexer by a table: the document's New. -/
import Derived.Test.YtfhmblbomkhcpaaDoorToksP
namespace Go.Proofs.YtfhmblbomkhcpaaDoor
open Go.RowKit

def badDrop (n : Nat) (e : Int) : Bool := decide ((n : Int) ≤ e)
/-- Is there a lexer? -/
def newOk (t : TabD) (d : List Bool) : Bool := mayT t && !t.e.any (badDrop d.length)
theorem newOk_spec {t : TabD} {d : List Bool} (h : newOk t d = true) : MayS t ∧ ∀ e ∈ t.e, e < d.length := by
  simp only [newOk, Bool.and_eq_true, Bool.not_eq_true', List.any_eq_false, badDrop, decide_eq_true_eq] at h
  exact ⟨mayT_iff.1 h.1, fun e he => by have := h.2 e he; omega⟩
/-- What New answers. -/
def NewPost (t : TabD) (d : List Bool) (B : Nat) (rs cs ns es ds : Sl) (w : World) (e : Ending) (w' : World) : Prop :=
  if newOk t d = true then ∃ b, e = .returned (.tuple #[.pointer (some ⟨b, 0, none⟩), .int .i64 0]) ∧ LexAt w' b B rs cs ns es ds t d ∧ w.heap.size ≤ b ∧ b < w'.heap.size ∧ Chg (fun _ => False) w w'
  else e = .returned (.tuple #[.pointer none, .int .i64 1]) ∧ Chg (fun _ => False) w w'
theorem NewPost.bad {t : TabD} {d : List Bool} {B : Nat} {rs cs ns es ds : Sl} {w w' : World} (h : newOk t d = false) (hc : Chg (fun _ => False) w w') : NewPost t d B rs cs ns es ds w (.returned (.tuple #[.pointer none, .int .i64 1])) w' := by
  unfold NewPost
  rw [if_neg (by rw [h]; decide)]
  exact ⟨rfl, hc⟩
theorem lexBox (w : World) (rs cs ns es ds : Sl) (e : TypeId) :
    ((w.alloc (.cells #[slV rs, slV cs, slV ns, slV es, slV ds] e)).cell? ⟨w.heap.size, 0, none⟩ = some (slV rs) ∧ (w.alloc (.cells #[slV rs, slV cs, slV ns, slV es, slV ds] e)).cell? ⟨w.heap.size, 1, none⟩ = some (slV cs) ∧ (w.alloc (.cells #[slV rs, slV cs, slV ns, slV es, slV ds] e)).cell? ⟨w.heap.size, 2, none⟩ = some (slV ns) ∧ (w.alloc (.cells #[slV rs, slV cs, slV ns, slV es, slV ds] e)).cell? ⟨w.heap.size, 3, none⟩ = some (slV es) ∧ (w.alloc (.cells #[slV rs, slV cs, slV ns, slV es, slV ds] e)).cell? ⟨w.heap.size, 4, none⟩ = some (slV ds)) := by
  refine ⟨?_, ?_, ?_, ?_, ?_⟩ <;> · rw [World.cell?_alloc_new]; rfl
theorem newOk_bad {t : TabD} {d : List Bool} (h : mayT t = false) : newOk t d = false := by unfold newOk; rw [h]; rfl
theorem newOk_drop {t : TabD} {d : List Bool} {e : Int} (he : e ∈ t.e) (h : (d.length : Int) ≤ e) : newOk t d = false := by
  have : t.e.any (badDrop d.length) = true := List.any_eq_true.2 ⟨e, he, by simpa [badDrop] using h⟩
  unfold newOk
  rw [this, Bool.not_true, Bool.and_false]
theorem newOk_good {t : TabD} {d : List Bool} (h : mayT t = true) (hd : ∀ e ∈ t.e, e < d.length) : newOk t d = true := by
  have : t.e.any (badDrop d.length) = false := by
    rw [List.any_eq_false]
    intro e he
    have := hd e he
    simp [badDrop]
    omega
  unfold newOk
  rw [h, this]
  rfl

set_option maxRecDepth 100000 in
set_option maxHeartbeats 4000000 in
theorem refNew_any (t : TabD) (d : List Bool) (rs cs ns es ds : Sl) (B : Nat) (w : World) (h : TabIn w B rs cs ns es t) (hf : Fair t) (hd : boolE.In w B ds d) :
    Calls Tryd.prog 11 #[tabV rs cs ns es, slV ds] w (NewPost t d B rs cs ns es ds w) := by
  have HTB := Lib.hid h
  have HD := Lib.hid hd
  have HFR := Lib.hid hf
  obtain ⟨ra, rn, rc⟩ := rs
  obtain ⟨ca, cn, cc⟩ := cs
  obtain ⟨na, nn, nc⟩ := ns
  obtain ⟨ea, en, ec⟩ := es
  obtain ⟨da, dn, dc⟩ := ds
  obtain ⟨rfl, he1⟩ := h.e.len
  obtain ⟨rfl, hd1⟩ := hd.len
  have fe := hf.e
  clear h hd hf
  have HT0 : Hid (∀ wx, Chg (fun _ => False) (w.alloc (.cells #[.slice ra rn rc, .slice ca cn cc, .slice na nn nc, .slice ea t.e.length ec] 38)) wx → wx.cell? ⟨w.heap.size, 0, none⟩ = some (.slice ra rn rc) ∧ wx.cell? ⟨w.heap.size, 1, none⟩ = some (.slice ca cn cc) ∧ wx.cell? ⟨w.heap.size, 2, none⟩ = some (.slice na nn nc) ∧ wx.cell? ⟨w.heap.size, 3, none⟩ = some (.slice ea t.e.length ec)) :=
    Lib.hid (fun wx hx => (tabBox w (ra, rn, rc) (ca, cn, cc) (na, nn, nc) (ea, t.e.length, ec) 38).chg hx (fun h => h))
  have HC0 := Lib.hid ((Chg.refl (fun _ => False) w).alloc (.cells #[.slice ra rn rc, .slice ca cn cc, .slice na nn nc, .slice ea t.e.length ec] 38))
  show Calls Tryd.prog 11 #[.agg #[.slice ra rn rc, .slice ca cn cc, .slice na nn nc, .slice ea t.e.length ec], .slice da d.length dc] w _
  cases hm : mayT t with
  | false =>
    have HM := Lib.hid hm
    have HF := Lib.hid (newOk_bad (d := d) hm)
    clear hm
    go_enter Tryd.func11, Tryd.ntmps11
    go_wp2_with fail
    refine (refMay_any t (ra, rn, rc) (ca, cn, cc) (na, nn, nc) (ea, t.e.length, ec) B _ (HTB.out.same HC0.out) HFR.out).mono ?_
    rintro e w1 ⟨rfl, hc⟩
    rw [HM.out]
    have HC1 := Lib.hid (HC0.out.trans hc)
    clear hc
    go_wp2
    go_ret2
    exact NewPost.bad HF.out HC1.out
  | true =>
    have HM := Lib.hid hm
    clear hm
    go_enter Tryd.func11, Tryd.ntmps11
    go_wp2_with fail
    refine (refMay_any t (ra, rn, rc) (ca, cn, cc) (na, nn, nc) (ea, t.e.length, ec) B _ (HTB.out.same HC0.out) HFR.out).mono ?_
    rintro e w1 ⟨rfl, hc⟩
    rw [HM.out]
    have HC1 := Lib.hid (HC0.out.trans hc)
    have HT1 := Lib.hid (HT0.out w1 hc)
    obtain ⟨q0, q1, q2, q3⟩ := HT0.out w1 hc
    clear hc
    go_wp2
    go_loopw [6] (fun q wr => ∃ k : Nat, k ≤ t.e.length ∧ q = .int .i64 k ∧ (∀ (j : Nat) e, j < k → t.e[j]? = some e → e < d.length) ∧ wr = w1) (fun q _ => t.e.length - (intOf q).toNat)
    case atStart => exact ⟨0, by omega, rfl, fun j e h => absurd h (Nat.not_lt_zero _), rfl⟩
    case round =>
      obtain ⟨k, hk, rfl, hb, rfl⟩ := hrel
      have HB := Lib.hid hb
      clear hb
      by_cases hkl : k < t.e.length
      · have b1 : decide ((k : Int) < (t.e.length : Int)) = true := by simp; omega
        obtain ⟨x, g, o, hx, hea, c0, x0, x1, -, -⟩ := (HTB.out.same HC1.out).e.getI hkl
        subst hea
        have HX := Lib.hid hx
        clear hx
        by_cases hxd : (d.length : Int) ≤ x
        · have d1 : decide ((d.length : Int) ≤ x) = true := by simpa using hxd
          have HF := Lib.hid (newOk_drop (List.mem_of_getElem? HX.out) hxd)
          go_wp2
          go_ret2
          exact NewPost.bad HF.out HC1.out
        · have d1 : decide ((d.length : Int) ≤ x) = false := by simpa using hxd
          have HB2 : Hid (∀ (j : Nat) e, j < k + 1 → t.e[j]? = some e → e < d.length) := Lib.hid (fun j y hj hy => by
            by_cases he : j = k
            · subst he; rw [HX.out] at hy; obtain rfl := Option.some.inj hy; omega
            · exact HB.out j y (by omega) hy)
          go_wp2
          go_roundw
          case rel => exact ⟨k + 1, by omega, by go_num, HB2.out, by first | rfl | trivial⟩
          case measure => simp [intOf]; omega
      · obtain rfl : k = t.e.length := by omega
        have b1 : decide ((t.e.length : Int) < (t.e.length : Int)) = false := by simp
        have HF : Hid (newOk t d = true) := Lib.hid (newOk_good HM.out (fun e he => by
          obtain ⟨j, hj⟩ := List.getElem?_of_mem he
          exact HB.out j e (List.getElem?_eq_some_iff.1 hj).1 hj))
        go_wp2
        go_ret2
        unfold NewPost
        rw [if_pos HF.out]
        have hc2 := (Chg.refl (fun _ => False) wr).alloc (.cells #[.slice ra rn rc, .slice ca cn cc, .slice na nn nc, .slice ea t.e.length ec, .slice da d.length dc] 71)
        exact ⟨wr.heap.size, rfl, ⟨lexBox wr (ra, rn, rc) (ca, cn, cc) (na, nn, nc) (ea, t.e.length, ec) (da, d.length, dc) _, (HTB.out.same HC1.out).same hc2, (HD.out.same HC1.out).same hc2⟩, HC1.out.size, by simp, HC1.out.trans hc2⟩
end Go.Proofs.YtfhmblbomkhcpaaDoor
