/- How much a table holds: harbingerlaw09's Great; and runes.Bad. -/
import Derived.Test.YtfhmblbomkhcpaaDoorRefMayT
import Derived.Test.YtfhmblbomkhcpaaDoorOpenT9
import Derived.Test.YtfhmblbomkhcpaaDoorLongP
namespace Go.Proofs.YtfhmblbomkhcpaaDoor
open Go.RowKit

def gUp (t : TabD) (k : Nat) : Nat := t.r.length + t.c.length + t.e.length + ((t.n.take k).map fun l => l.length + 1).sum
def greatT (t : TabD) : Bool := decide (6000 < gUp t t.n.length)
theorem gUp_zero (t : TabD) : gUp t 0 = t.r.length + t.c.length + t.e.length := by simp [gUp]
theorem gUp_step {t : TabD} {k : Nat} {l : List Int} (h : t.n[k]? = some l) : gUp t (k + 1) = gUp t k + 1 + l.length := by
  unfold gUp
  rw [List.take_add_one, h]
  simp
  omega
theorem gUp_le (t : TabD) (k : Nat) : gUp t k ≤ gUp t t.n.length := by
  have h : ((t.n.take k).map fun l => l.length + 1).sum + ((t.n.drop k).map fun l => l.length + 1).sum = (t.n.map fun l => l.length + 1).sum := by
    rw [← List.sum_append, ← List.map_append, List.take_append_drop]
  unfold gUp
  rw [List.take_length]
  omega
theorem mem_sum {LL : List (List Int)} {l : List Int} (h : l ∈ LL) : l.length + 1 ≤ (LL.map fun l => l.length + 1).sum := by
  induction LL with
  | nil => cases h
  | cons x LL ih =>
    rcases List.mem_cons.1 h with rfl | h
    · simp
    · have := ih h; simp; omega
theorem len_sum (LL : List (List Int)) : LL.length ≤ (LL.map fun l => l.length + 1).sum := by
  induction LL with
  | nil => simp
  | cons x LL ih => simp; omega
/-- A table that is not great is fair. -/
theorem greatT_fair {t : TabD} (h : greatT t = false) : Fair t ∧ t.e.length ≤ 6000 := by
  have h1 : gUp t t.n.length ≤ 6000 := by simpa [greatT] using h
  unfold gUp at h1
  rw [List.take_length] at h1
  have h2 := len_sum t.n
  exact ⟨⟨by omega, by omega, by omega, by omega, fun l hl => by have := mem_sum hl; omega⟩, by omega⟩

set_option maxRecDepth 100000 in
set_option maxHeartbeats 4000000 in
theorem great_any (t : TabD) (rs cs ns es : Sl) (B : Nat) (w : World) (h : TabIn w B rs cs ns es t) (hv : Vast t) :
    Calls Tryd.prog 7 #[tabV rs cs ns es] w fun e w' => e = .returned (.bool (greatT t)) ∧ Chg (fun _ => False) w w' := by
  obtain ⟨ra, rn, rc⟩ := rs
  obtain ⟨ca, cn, cc⟩ := cs
  obtain ⟨na, nn, nc⟩ := ns
  obtain ⟨ea, en, ec⟩ := es
  obtain ⟨hR, hC, hN, hE⟩ := h
  obtain ⟨fr, fc, fn, fe, fl⟩ := hv
  obtain ⟨rfl, hr1⟩ := hR.len
  obtain ⟨rfl, hc1⟩ := hC.len
  obtain ⟨rfl, hn1⟩ := hN.len
  obtain ⟨rfl, he1⟩ := hE.len
  have HN := Lib.hid hN
  have HL := Lib.hid fl
  have HZ : Hid (gUp t 0 = t.r.length + t.c.length + t.e.length) := Lib.hid (gUp_zero t)
  clear hR hC hN hE fl
  show Calls Tryd.prog 7 #[.agg #[.slice ra t.r.length rc, .slice ca t.c.length cc, .slice na t.n.length nc, .slice ea t.e.length ec]] w _
  go_enter Tryd.func7, Tryd.ntmps7
  go_upto_region 1 with (fail)
  obtain ⟨wa, hwa⟩ : ∃ x, x = w.alloc (.cells #[.slice ra t.r.length rc, .slice ca t.c.length cc, .slice na t.n.length nc, .slice ea t.e.length ec] 26) := ⟨_, rfl⟩
  have HCA : Hid (Chg (fun _ => False) w wa) := Lib.hid (by rw [hwa]; exact (Chg.refl _ _).alloc _)
  obtain ⟨q0, q1, q2, q3⟩ : wa.cell? ⟨w.heap.size, 0, none⟩ = some (.slice ra t.r.length rc) ∧ wa.cell? ⟨w.heap.size, 1, none⟩ = some (.slice ca t.c.length cc) ∧ wa.cell? ⟨w.heap.size, 2, none⟩ = some (.slice na t.n.length nc) ∧ wa.cell? ⟨w.heap.size, 3, none⟩ = some (.slice ea t.e.length ec) := by
    rw [hwa]
    exact tabBox w (ra, t.r.length, rc) (ca, t.c.length, cc) (na, t.n.length, nc) (ea, t.e.length, ec) 26
  rw [← hwa]
  clear hwa
  go_wp2
  go_loopw [3, 4] (fun nv q wr => ∃ k : Nat, k ≤ t.n.length ∧ q = .int .i64 k ∧ nv = .int .i64 (gUp t k) ∧ (k = 0 ∨ gUp t k ≤ 6000) ∧ wr = wa) (fun _ q _ => t.n.length - (intOf q).toNat)
  case atStart => exact ⟨0, by omega, rfl, by rw [HZ.out]; go_num, .inl rfl, rfl⟩
  case round =>
    obtain ⟨k, hk, rfl, rfl, hz, rfl⟩ := hrel
    have hg0 : gUp t k ≤ 300000000000000 := by
      rcases hz with rfl | h
      · rw [HZ.out]; omega
      · omega
    clear hz
    by_cases hkl : k < t.n.length
    · have b1 : decide ((k : Int) < (t.n.length : Int)) = true := by simp; omega
      obtain ⟨l, g, o, la, lc, gl, ol, hl, rfl, c0, hlc, -, -, -, -⟩ := (HN.out.same HCA.out).get hkl
      have hll : l.length ≤ 100000000000000 := HL.out l (List.mem_of_getElem? hl)
      have hst := gUp_step hl
      have HLE := Lib.hid (gUp_le t (k + 1))
      have HST := Lib.hid hst
      clear hl
      by_cases hgt : 6000 < gUp t (k + 1)
      · have d1 : decide (6000 < (gUp t k : Int) + 1 + (l.length : Int)) = true := by simp; omega
        have HR : Hid (greatT t = true) := Lib.hid (by unfold greatT; have := HLE.out; simp; omega)
        clear hst
        go_wp2
        go_ret
        exact ⟨by rw [HR.out]; rfl, HCA.out⟩
      · have d1 : decide (6000 < (gUp t k : Int) + 1 + (l.length : Int)) = false := by simp; omega
        clear hst
        go_wp2
        go_roundw
        case rel => exact ⟨k + 1, by omega, by go_num, by rw [HST.out]; go_num, .inr (by omega), by first | rfl | trivial⟩
        case measure => simp [intOf]; omega
    · obtain rfl : k = t.n.length := by omega
      have b1 : decide ((t.n.length : Int) < (t.n.length : Int)) = false := by simp
      have HR : Hid (decide ((6000 : Int) < (gUp t t.n.length : Int)) = greatT t) := Lib.hid (by unfold greatT; rw [decide_eq_decide]; omega)
      obtain ⟨r, hr⟩ : ∃ r, decide ((6000 : Int) < (gUp t t.n.length : Int)) = r := ⟨_, rfl⟩
      have HR2 : Hid (greatT t = r) := Lib.hid (by rw [← HR.out, hr])
      have hr2 : decide (6000 < gUp t t.n.length) = r := HR2.out
      go_wp2
      go_ret
      exact ⟨by rw [HR2.out]; rfl, HCA.out⟩

set_option maxRecDepth 100000 in
set_option maxHeartbeats 4000000 in
theorem bad_any (s : ByteArray) (w : World) (hT : Tabs w) (hs : s.size ≤ 1000000000000) :
    Calls Tryd.prog 23 #[.string s] w fun e w' => (∃ x : Int, e = .returned (.int .i64 x)) ∧ Chg (fun _ => False) w w' := by
  have HT := Lib.hid hT
  clear hT
  go_enter Tryd.func23, Tryd.ntmps23
  go_wp2
  go_loopw [3] (fun q wr => ∃ i : Nat, i ≤ s.size ∧ q = .int .i64 i ∧ Chg (fun _ => False) w wr) (fun q _ => s.size - (intOf q).toNat)
  case atStart => exact ⟨0, by omega, rfl, Chg.refl _ _⟩
  case round =>
    obtain ⟨i, hi, rfl, hc⟩ := hrel
    have HC := Lib.hid hc
    clear hc
    by_cases his : i < s.size
    · have b1 : decide ((i : Int) < (s.size : Int)) = true := by simp; omega
      have HD := Lib.hid (runeDecode_in s i wr (HT.out.same HC.out) his)
      cases hd : decU s i with
      | none =>
        rw [decV_none hd] at HD
        clear hd
        go_wp2_with fail
        refine HD.out.mono ?_
        rintro e w1 ⟨rfl, hc⟩
        have HC1 := Lib.hid (HC.out.trans hc)
        clear hc HD
        go_wp2
        go_ret
        exact ⟨⟨_, rfl⟩, HC1.out⟩
      | some p =>
        obtain ⟨c, n⟩ := p
        obtain ⟨-, hn1, hn4, hin, hc4, -, -⟩ := decU_some his hd
        rw [decV_some hd] at HD
        clear hd
        go_wp2_with fail
        refine HD.out.mono ?_
        rintro e w1 ⟨rfl, hc⟩
        have HC1 := Lib.hid (HC.out.trans hc)
        clear hc HD
        go_wp2
        go_roundw
        case rel => exact ⟨i + n, by omega, by go_num, HC1.out⟩
        case measure => simp [intOf]; omega
    · obtain rfl : i = s.size := by omega
      have b1 : decide ((s.size : Int) < (s.size : Int)) = false := by simp
      go_wp2
      go_ret
      exact ⟨⟨_, rfl⟩, HC.out⟩
end Go.Proofs.YtfhmblbomkhcpaaDoor
