/- Tokens: the document's and the program's. -/
import Derived.Test.YtfhmblbomkhcpaaDoorClone
namespace Go.Proofs.YtfhmblbomkhcpaaDoor
open Go.RowKit

def encTok (x : TokD) : List Value := [.int .i64 x.1, .string x.2.1, .int .i64 x.2.2]
def tokE : Elt TokD where
  enc := encTok
  sz := 3
  bs := 32
  e := 57
  sl := 43
  z := (0, ⟨#[]⟩, 0)
  zv := .agg #[.int .i64 0, .string ⟨#[]⟩, .int .i64 0]
  ok := fun _ => True
  pos := by omega
  len := fun _ => rfl
  one := fun a u hu => by
    simp only [encTok, List.mem_cons, List.not_mem_nil, or_false] at hu
    rcases hu with rfl | rfl | rfl <;> rfl
  zok := trivial
  info := by kernel_rfl
  zc := rfl
  und := by kernel_rfl
  bsl := by omega
theorem Elt.Own.clip {α : Type} {E : Elt α} {w : World} {B : Nat} {v : Value} {X : List α} (h : E.Own w B v X) : ∃ a c, v = .slice a X.length c ∧ X.length ≤ c ∧ E.Own w B (.slice a X.length X.length) X := by
  rcases h with ⟨rfl, rfl⟩ | ⟨g, C, rfl, h2, h3, h4, h5⟩
  · exact ⟨none, 0, rfl, Nat.le_refl _, .nil _ _⟩
  · refine ⟨_, _, rfl, h4.length_le, .inr ⟨g, X, rfl, h2, ⟨fun j u hj => ?_, h3.z, h3.lt, fun x hx => h3.ok x (h4.subset hx)⟩, List.prefix_refl _, Nat.le_trans h4.length_le h5⟩⟩
    have := (h3.at' h4).c j u hj
    rwa [Nat.zero_add] at this
theorem clipTok_any (w : World) (a : Option Addr) (n c : Nat) (hn : n ≤ c) : Calls Tryd.prog 40 #[.slice a n c] w fun e w' => e = .returned (.slice a n n) ∧ w = w' := by
  cases a with
  | none =>
    go_enter Tryd.func40, Tryd.ntmps40
    go_wp2
    go_ret
    exact ⟨rfl, rfl⟩
  | some ad =>
    go_enter Tryd.func40, Tryd.ntmps40
    go_wp2
    go_ret
    exact ⟨rfl, rfl⟩

/-- What tokens answer, in memory. -/
def TokPost (t : TabD) (d : List Bool) (s : ByteArray) (w : World) (e : Ending) (w' : World) : Prop :=
  ∃ v, e = .returned (.tuple #[v, .int .i64 (toksL t d s).2.1, .int .i64 (toksL t d s).2.2]) ∧ tokE.Own w' w.heap.size v (toksL t d s).1 ∧ Chg (fun _ => False) w w'
theorem TokPost.mk {t : TabD} {d : List Bool} {s : ByteArray} {w w' : World} {v : Value} {L : List TokD} {p e : Int} (h : toksL t d s = (L, p, e)) (ho : tokE.Own w' w.heap.size v L) (hc : Chg (fun _ => False) w w') : TokPost t d s w (.returned (.tuple #[v, .int .i64 p, .int .i64 e])) w' :=
  ⟨v, by rw [h], by rw [h]; exact ho, hc⟩
theorem drop_get {d : List Bool} {k : Int} {x : Bool} (h : d[k.toNat]? = some x) : d.getD k.toNat false = x := by rw [List.getD_eq_getElem?_getD, h]; rfl

set_option maxRecDepth 100000 in
set_option maxHeartbeats 4000000 in
theorem refToks_any (b B : Nat) (rs cs ns es ds : Sl) (t : TabD) (d : List Bool) (s : ByteArray) (w : World) (h : LexAt w b B rs cs ns es ds t d) (hf : Fair t) (hm : MayS t) (hs : s.size ≤ 1000000000000) (hd : ∀ e ∈ t.e, e < d.length) :
    Calls Tryd.prog 17 #[.pointer (some ⟨b, 0, none⟩), .string s] w (TokPost t d s w) := by
  obtain ⟨da, dn, dc⟩ := ds
  have HLX := Lib.hid h
  have HF := Lib.hid hf
  have HM := Lib.hid hm
  have HD := Lib.hid hd
  obtain ⟨rfl, hdc⟩ := h.drop.len
  clear h hf hm hd
  by_cases hb : 65536 < s.size
  · have d0 : decide ((65536 : Int) < (s.size : Int)) = true := by simp; omega
    have d0' : decide (65536 < s.size) = true := by simp; omega
    have HR : Hid (toksL t d s = ([], 0, 3)) := Lib.hid (by unfold toksL; rw [if_pos hb])
    go_enter Tryd.func17, Tryd.ntmps17
    go_wp2
    exact bodyPost_ret (v := .tuple #[.slice none 0 0, .int .i64 0, .int .i64 3]) (by simp [results, Tryd.results17, go_sem]) rfl (TokPost.mk HR.out (.nil _ _) (Chg.refl _ _))
  · have d0 : decide ((65536 : Int) < (s.size : Int)) = false := by simp; omega
    have d0' : decide (65536 < s.size) = false := by simp; omega
    have HR0 : Hid (toksL t d s = toksG t d s 0 []) := Lib.hid (by unfold toksL; rw [if_neg hb])
    go_enter Tryd.func17, Tryd.ntmps17
    go_wp2
    go_loopw [7, 8] (fun v q wr => ∃ (i : Nat) (l : List TokD), i ≤ s.size ∧ q = .int .i64 i ∧ tokE.Own wr w.heap.size v l ∧ l.length ≤ 16384 ∧ toksL t d s = toksG t d s i l ∧ Chg (fun _ => False) w wr) (fun _ q _ => s.size - (intOf q).toNat)
    case atStart => exact ⟨0, [], by omega, rfl, .nil _ _, by simp, HR0.out, Chg.refl _ _⟩
    case round =>
      obtain ⟨i, l, hi, rfl, hv, hll, hr, hc⟩ := hrel
      obtain ⟨va, vc, rfl, hvc, -⟩ := hv.clip
      have HV := Lib.hid hv
      have HR := Lib.hid hr
      have HC := Lib.hid hc
      clear hr hc hv HR0
      by_cases his : i < s.size
      · have b1 : decide ((i : Int) < (s.size : Int)) = true := by simp; omega
        have HST := Lib.hid (toksG_step HM.out (drop := d) (l := l) his)
        have hok := longL_ok HM.out s i
        obtain ⟨⟨k, z⟩, hkz⟩ : ∃ x, longL t s i = x := ⟨_, rfl⟩
        rw [hkz] at HST hok
        have HKZ := Lib.hid hkz
        simp only at HST
        clear hkz
        by_cases hz : z = 0
        · have HRF : Hid (toksL t d s = ([], (i : Int), 9)) := Lib.hid (by rw [HR.out, HST.out, if_pos hz])
          have d1 : (z == 0) = true := by simpa using hz
          clear hok
          have HZ := Lib.hid hz
          clear hz
          go_wp2_with fail
          refine (refLong_any b B rs cs ns es (da, d.length, dc) t d s i wr (HLX.out.same HC.out) HF.out HM.out hs ⟨by omega, by omega⟩).mono ?_
          rintro e w1 ⟨rfl, hc⟩
          rw [HKZ.out]
          have HC1 := Lib.hid (HC.out.trans hc)
          clear hc
          go_wp2
          exact bodyPost_ret (v := .tuple #[.slice none 0 0, .int .i64 i, .int .i64 9]) (by simp [results, Tryd.results17, go_sem]) rfl (TokPost.mk HRF.out (.nil _ _) HC1.out)
        · have d1 : (z == 0) = false := by simpa using hz
          obtain ⟨hk0, hke, hz1, hz2⟩ : 0 ≤ k ∧ k ∈ t.e ∧ 1 ≤ z ∧ (i : Int) + z ≤ s.size := by
            rcases hok with h | h
            · injection h with _ h; exact absurd h hz
            · exact h
          have hkd := HD.out k hke
          obtain ⟨n, rfl⟩ : ∃ n : Nat, z = n := ⟨z.toNat, by omega⟩
          obtain ⟨k, rfl⟩ : ∃ k' : Nat, k = k' := ⟨k.toNat, by omega⟩
          rw [if_neg hz] at HST
          simp only [Int.toNat_natCast] at HST
          clear hke hok hz
          go_wp2_with fail
          refine (refLong_any b B rs cs ns es (da, d.length, dc) t d s i wr (HLX.out.same HC.out) HF.out HM.out hs ⟨by omega, by omega⟩).mono ?_
          rintro e w1 ⟨rfl, hc⟩
          rw [HKZ.out]
          have HC1 := Lib.hid (HC.out.trans hc)
          have HV1 := Lib.hid (HV.out.chg hc (fun _ _ _ h => h))
          clear hc
          obtain ⟨⟨-, -, -, -, q4⟩, -, hdr⟩ := HLX.out.same HC1.out
          unfold slV at q4
          simp only at q4
          obtain ⟨x, gd, od, hx, rfl, d0c, -, -⟩ := hdr.getB (show k < d.length by omega)
          have HX : Hid (d.getD k false = x) := Lib.hid (drop_get (k := (k : Int)) hx)
          rw [HX.out] at HST
          clear hdr hx
          cases x with
          | true =>
            have HRX : Hid (toksL t d s = toksG t d s (i + n) l) := Lib.hid (by rw [HR.out, HST.out]; rfl)
            go_wp2
            go_roundw
            case rel => exact ⟨i + n, l, by omega, by go_num, HV1.out, hll, HRX.out, HC1.out⟩
            case measure => simp [intOf]; omega
          | false =>
            by_cases h16 : 16384 ≤ l.length
            · have d2 : decide ((16384 : Int) ≤ (l.length : Int)) = true := by simp; omega
              have d2' : decide (16384 ≤ l.length) = true := by simp; omega
              have HRF : Hid (toksL t d s = ([], (i : Int), 3)) := Lib.hid (by rw [HR.out, HST.out, if_neg (by simp), if_pos h16])
              go_wp2
              exact bodyPost_ret (v := .tuple #[.slice none 0 0, .int .i64 i, .int .i64 3]) (by simp [results, Tryd.results17, go_sem]) rfl (TokPost.mk HRF.out (.nil _ _) HC1.out)
            · have d2 : decide ((16384 : Int) ≤ (l.length : Int)) = false := by simp; omega
              have d2' : decide (16384 ≤ l.length) = false := by simp; omega
              have HRX : Hid (toksL t d s = toksG t d s (i + n) (l ++ [((k : Int), s.extract i (i + n), (i : Int))])) := Lib.hid (by rw [HR.out, HST.out, if_neg (by simp), if_neg h16])
              have HLB : Hid (w.heap.size ≤ w1.heap.size) := Lib.hid HC1.out.size
              have HY : Hid (∀ x ∈ [((k : Int), s.extract i (i + n), (i : Int))], tokE.ok x) := Lib.hid (fun _ _ => trivial)
              go_wp2_with (at_builtin; refine Elt.wpList_append2 tokE rfl _ _ 43 43 rfl rfl w.heap.size (.slice va l.length vc) l [((k : Int), s.extract i (i + n), (i : Int))] (.slice (some ⟨w1.heap.size, 0, none⟩) 1 1) rfl rfl (HV1.out.chg ((Chg.refl (fun _ => False) _).alloc _) (fun _ _ _ h => h)) (by have := HLB.out; simp; omega) (tokE.srcLit 1 HY.out) HY.out (by simp; omega) ?_; intro v' w2 HO HC2 HC3)
              have HC4 : Hid (Chg (fun _ => False) w w2) := Lib.hid (((HC1.out.alloc _).any.trans HC2.out).fresh)
              go_roundw
              case rel => exact ⟨i + n, _, by omega, by go_num, HO.out, by simp; omega, HRX.out, HC4.out⟩
              case measure => simp [intOf]; omega
      · obtain rfl : i = s.size := by omega
        have b1 : decide ((s.size : Int) < (s.size : Int)) = false := by simp
        have HRF : Hid (toksL t d s = (l, (s.size : Int), 0)) := Lib.hid (by rw [HR.out, toksG_end])
        go_wp2
        exact bodyPost_ret (v := .tuple #[.slice va l.length vc, .int .i64 s.size, .int .i64 0]) (by simp [results, Tryd.results17, go_sem]) rfl (TokPost.mk HRF.out HV.out HC.out)
end Go.Proofs.YtfhmblbomkhcpaaDoor
