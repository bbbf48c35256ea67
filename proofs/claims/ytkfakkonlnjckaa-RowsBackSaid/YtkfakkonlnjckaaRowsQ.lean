/- A table's bytes behind others: rows.Put. -/
import Derived.Test.YtkfakkonlnjckaaRowsP
namespace Go.Proofs.Ytkfakkonlnjckaa
open Go.RowKit

theorem cellsPut_append : ∀ (X Y : List (Int × Int)) (last : Int), cellsPut last (X ++ Y) = cellsPut last X ++ cellsPut (lastOf last X) Y
  | [], Y, last => rfl
  | x :: X, Y, last => by
    have := cellsPut_append X Y x.1
    simp only [List.cons_append, cellsPut, this]
    rfl
theorem cellsPut_ok {W : Nat} {d : Int} (hW : W ≤ 65536) : ∀ (l : List (Int × Int)) (lf lp : Int), fineCells W d lf l = true → lp ≤ lf + 1 → 0 ≤ lp → ∀ n ∈ cellsPut lp l, 0 ≤ n ∧ n < 4294967296
  | [], _, _, _, _, _, n, hn => by cases hn
  | c :: l, lf, lp, h, h1, h2, n, hn => by
    simp only [fineCells, Bool.and_eq_true, decide_eq_true_eq] at h
    obtain ⟨⟨⟨⟨g1, g2⟩, g3⟩, -⟩, g5⟩ := h
    simp only [cellsPut, List.mem_cons] at hn
    rcases hn with rfl | rfl | hn
    · omega
    · omega
    · exact cellsPut_ok hW l c.1 c.1 g5 (by omega) (by omega) n hn
theorem fine_bounds {W : Nat} {r : RowD} (hW : W ≤ 65536) (h : fineL W r = true) : isVal r.1 ∧ r.2.length ≤ W ∧ ∀ n ∈ rowPut r, 0 ≤ n ∧ n < 4294967296 := by
  obtain ⟨d, cs⟩ := r
  by_cases h0 : W = 0
  · subst h0
    simp only [fineL, if_true, Bool.and_eq_true, decide_eq_true_eq] at h
    obtain ⟨rfl, rfl⟩ := h
    refine ⟨by decide, Nat.le_refl _, fun n hn => ?_⟩
    simp [rowPut, cellsPut] at hn
    subst hn
    omega
  · simp only [fineL, if_neg h0, Bool.and_eq_true, decide_eq_true_eq] at h
    obtain ⟨⟨⟨h1, -⟩, h3⟩, h4⟩ := h
    refine ⟨h3, by show cs.length ≤ W; omega, fun n hn => ?_⟩
    simp only [rowPut, List.mem_cons] at hn
    rcases hn with rfl | rfl | hn
    · show 0 ≤ d + 1 ∧ d + 1 < 4294967296
      omega
    · show 0 ≤ (cs.length : Int) ∧ (cs.length : Int) < 4294967296
      omega
    · exact cellsPut_ok hW cs (-1) 0 h1 (by omega) (by omega) n hn
theorem nextL_mem : ∀ (l : List Int) (next m r : Int), nextL next m l = some r → ∀ i ∈ l, 0 ≤ i ∧ i < m
  | [], _, _, _, _, i, hi => by cases hi
  | x :: l, next, m, r, h, i, hi => by
    simp only [nextL] at h
    split at h
    · cases h
    · rcases List.mem_cons.1 hi with rfl | hi
      · omega
      · exact nextL_mem l _ m r h i hi
/-- The numbers of a table that may be. -/
theorem tabNums_ok {W : Int} {R : List RowD} {O : List Int} (h : mayL (W, R, O) = true) : (∀ n ∈ tabNums (W, R, O), 0 ≤ n ∧ n < 4294967296) ∧ R.length ≤ O.length := by
  obtain ⟨h1, h2, h3, h4⟩ := mayL_spec h
  have hle := nextL_le O 0 R.length _ h2
  refine ⟨fun n hn => ?_, by omega⟩
  simp only [tabNums, List.mem_cons, List.mem_append, List.mem_flatMap] at hn
  rcases hn with rfl | rfl | ⟨r, hr, hn⟩ | rfl | hn
  · omega
  · omega
  · exact (fine_bounds (by omega) (h3 r hr)).2.2 n hn
  · omega
  · have := nextL_mem O 0 R.length _ h2 n hn
    omega

theorem rowSplit {W : Int} {R : List RowD} {O : List Int} {k : Nat} {r : RowD} (h : R[k]? = some r) : tabNums (W, R, O) = (W :: (R.length : Int) :: (R.take k).flatMap rowPut) ++ (rowPut r ++ ((R.drop (k + 1)).flatMap rowPut ++ (O.length : Int) :: O)) := by
  have h1 := (List.getElem?_eq_some_iff.1 h).1
  have h2 : R = R.take k ++ r :: R.drop (k + 1) := by
    rw [← (List.getElem?_eq_some_iff.1 h).2, ← List.drop_eq_getElem_cons h1, List.take_append_drop]
  simp only [tabNums]
  rw [show R.flatMap rowPut = (R.take k ++ r :: R.drop (k + 1)).flatMap rowPut by rw [← h2]]
  simp
theorem cellSplit {d : Int} {cs : List (Int × Int)} {j : Nat} {c : Int × Int} (h : cs[j]? = some c) : rowPut (d, cs) = ((d + 1) :: (cs.length : Int) :: cellsPut 0 (cs.take j)) ++ ((c.1 - lastOf 0 (cs.take j)) :: (c.2 + 1) :: cellsPut c.1 (cs.drop (j + 1))) := by
  have h1 := (List.getElem?_eq_some_iff.1 h).1
  have h2 : cs = cs.take j ++ c :: cs.drop (j + 1) := by
    rw [← (List.getElem?_eq_some_iff.1 h).2, ← List.drop_eq_getElem_cons h1, List.take_append_drop]
  simp only [rowPut]
  rw [show cellsPut 0 cs = cellsPut 0 (cs.take j ++ c :: cs.drop (j + 1)) by rw [← h2], cellsPut_append]
  simp [cellsPut]
theorem offSplit {W : Int} {R : List RowD} {O : List Int} {k : Nat} {i : Int} (h : O[k]? = some i) : tabNums (W, R, O) = ((W :: (R.length : Int) :: R.flatMap rowPut) ++ [(O.length : Int)] ++ O.take k) ++ (i :: O.drop (k + 1)) := by
  have h1 := (List.getElem?_eq_some_iff.1 h).1
  simp only [tabNums]
  rw [← (List.getElem?_eq_some_iff.1 h).2, ← List.drop_eq_getElem_cons h1]
  simp
/-- Another block stays: it is not the list's. -/
structure Apart1 (bo : Nat) (w : World) (v : Value) (b : Nat) : Prop where
  ne : b ≠ bo
  lt : b < w.heap.size
  out : ∀ g, v.ownBlock = some g → g ≠ b
theorem Apart1.next {bo : Nat} {w w' : World} {v v' : Value} {b : Nat} (h : Apart1 bo w v b) {S : Nat → Prop} (hc : Chg S w w') (hb : ∀ g, v'.ownBlock = some g → v.ownBlock = some g ∨ w.heap.size ≤ g) : Apart1 bo w' v' b :=
  ⟨h.ne, Nat.lt_of_lt_of_le h.lt hc.size, fun g hg e => by
    rcases hb g hg with h1 | h1
    · exact h.out g h1 e
    · have := h.lt; omega⟩
theorem Apart1.keep {bo : Nat} {w w' : World} {v : Value} {b : Nat} (h : Apart1 bo w v b) (hc : Chg (fun k => k = bo ∨ v.ownBlock = some k) w w') {j : Nat} {u : Value} (hu : w.cell? ⟨b, j, none⟩ = some u) : w'.cell? ⟨b, j, none⟩ = some u :=
  hc.cellS hu (fun e => by rcases e with e | e; · exact h.ne e
                           · exact h.out _ e rfl)
/-- The state within Put. -/
structure PutSt (w0 : World) (bo : Nat) (w : World) (v : Value) (N : List Int) : Prop where
  fld : Fld8 bo w v (bytesOf N)
  chg : Chg (fun k => bo ≤ k) w0 w
theorem PutSt.put {w0 : World} {bo : Nat} {w w' : World} {v v' : Value} {N : List Int} {z : Int} (h : PutSt w0 bo w v N) (hf : Fld8 bo w' v' (bytesOf N ++ putL z.toNat)) (hc : Chg (fun k => k = bo ∨ v.ownBlock = some k) w w') : PutSt w0 bo w' v' (N ++ [z]) :=
  ⟨by rw [bytesOf_snoc]; exact hf, h.chg.trans (hc.mono (fun k _ e => by
    rcases e with e | e
    · omega
    · have := (ownBlk h.fld.own e).1; omega))⟩
theorem PutSt.alloc {w0 : World} {bo : Nat} {w : World} {v : Value} {N : List Int} (h : PutSt w0 bo w v N) (o : Obj) : PutSt w0 bo (w.alloc o) v N :=
  ⟨h.fld.chg ((Chg.refl (fun _ => False) w).alloc o) (fun _ _ _ h => h), h.chg.alloc o⟩
theorem PutSt.fresh {w0 : World} {bo : Nat} {w : World} {v : Value} {N : List Int} (h : PutSt w0 bo w v N) (o : Obj) : Apart1 bo (w.alloc o) v w.heap.size :=
  ⟨by have := h.fld.lt; omega, by simp, fun g hg e => by have := (ownBlk h.fld.own hg).2; omega⟩
theorem Apart1.alloc {bo : Nat} {w : World} {v : Value} {b : Nat} (h : Apart1 bo w v b) (o : Obj) : Apart1 bo (w.alloc o) v b := ⟨h.ne, by have := h.lt; simp; omega, h.out⟩

set_option maxRecDepth 100000 in
set_option maxHeartbeats 8000000 in
theorem put_bad (W : Int) (R : List RowD) (O : List Int) (ra oa ab : Option Addr) (rc oc nb cb B g o : Nat) (w : World) (hW : I.Byte W) (hR : RowsIn cellE rowE w B (ra, R.length, rc) R) (hrl : R.length ≤ 100000000) (hcl : ∀ r ∈ R, r.2.length ≤ 1000000000)
    (hO : I.BytesAt w g o O) (ha : 0 < O.length → oa = some ⟨g, o, none⟩) (hol : O.length ≤ 100000000) (hm : mayL (W, R, O) = false) :
    Calls Try.prog 23 #[.slice ab nb cb, .agg #[.int .i64 W, .slice ra R.length rc, .slice oa O.length oc]] w fun e w' => e = .returned (.tuple #[.slice none 0 0, .int .i64 1]) ∧ Chg (fun _ => False) w w' := by
  have HC0 := Lib.hid ((Chg.refl (fun _ => False) w).alloc (.cells #[.int .i64 W, .slice ra R.length rc, .slice oa O.length oc] 45))
  have HR := Lib.hid hR
  have HO := Lib.hid hO
  have HA := Lib.hid ha
  have HCL := Lib.hid hcl
  have HM := Lib.hid hm
  clear hR hO ha hcl hm
  go_enter Try.func23, Try.ntmps23
  go_wp2_with fail
  refine (may_any W R O ra oa rc oc B g o _ hW (HR.out.same HC0.out) hrl HCL.out (HO.out.chg HC0.out (fun _ h => h)) HA.out hol).mono ?_
  rintro e w2 ⟨rfl, hc2⟩
  rw [HM.out]
  have HC2 := Lib.hid (HC0.out.trans hc2)
  clear hc2
  go_wp2
  go_ret2
  exact ⟨rfl, HC2.out⟩

set_option maxRecDepth 100000 in
set_option maxHeartbeats 16000000 in
theorem put_ok (Z : List Int) (W : Int) (R : List RowD) (O : List Int) (ra oa ab : Option Addr) (rc oc cb gb ob B g o : Nat) (w : World) (hW : I.Byte W) (hR : RowsIn cellE rowE w B (ra, R.length, rc) R) (hrl : R.length ≤ 100000000) (hcl : ∀ r ∈ R, r.2.length ≤ 1000000000)
    (hO : I.BytesAt w g o O) (ha : 0 < O.length → oa = some ⟨g, o, none⟩) (hol : O.length ≤ 100000000) (hm : mayL (W, R, O) = true)
    (hb : BytesAt w gb ob Z) (hab : 0 < Z.length → ab = some ⟨gb, ob, none⟩) (hzl : Z.length ≤ 1000000) (hN : (tabNums (W, R, O)).length ≤ 10000000) :
    Calls Try.prog 23 #[.slice ab Z.length cb, .agg #[.int .i64 W, .slice ra R.length rc, .slice oa O.length oc]] w fun e w' => ∃ h, e = .returned (.tuple #[.slice (some ⟨h, 0, none⟩) (Z ++ putTab (W, R, O)).length (Z ++ putTab (W, R, O)).length, .int .i64 0]) ∧ w.heap.size ≤ h ∧ Row w' h (Z ++ putTab (W, R, O)) ∧ Chg (fun _ => False) w w' := by
  have HC0 := Lib.hid ((Chg.refl (fun _ => False) w).alloc (.cells #[.int .i64 W, .slice ra R.length rc, .slice oa O.length oc] 45))
  have HB0 : Hid (∀ wr, Chg (fun _ => False) (w.alloc (.cells #[.int .i64 W, .slice ra R.length rc, .slice oa O.length oc] 45)) wr → wr.cell? ⟨w.heap.size, 0, none⟩ = some (.int .i64 W) ∧ wr.cell? ⟨w.heap.size, 1, none⟩ = some (.slice ra R.length rc) ∧ wr.cell? ⟨w.heap.size, 2, none⟩ = some (.slice oa O.length oc) ∧ w.heap.size < wr.heap.size) := Lib.hid fun wr hc =>
    ⟨hc.cellS (by simp) (fun h => h), hc.cellS (by simp) (fun h => h), hc.cellS (by simp) (fun h => h), by have := hc.size; simp at this; omega⟩
  have HR := Lib.hid hR
  have HO := Lib.hid hO
  have HA := Lib.hid ha
  have HCL := Lib.hid hcl
  have HM := Lib.hid hm
  have HBZ := Lib.hid hb
  have HAB := Lib.hid hab
  have HT := Lib.hid (tabNums_ok hm).1
  have HRO := Lib.hid (tabNums_ok hm).2
  have HNL := Lib.hid hN
  have HBL : Hid (∀ (P S : List Int), tabNums (W, R, O) = P ++ S → (bytesOf P).length ≤ 100000000) := Lib.hid fun P S h => by
    have := bytesOf_len P (fun n hn => HT.out n (by rw [h]; simp [hn]))
    have h2 := congrArg List.length h
    simp only [List.length_append] at h2
    omega
  have HWT := Lib.hid (HT.out W (by simp [tabNums]))
  have HRT := Lib.hid (HT.out R.length (by simp [tabNums]))
  have HOT := Lib.hid (HT.out O.length (by simp [tabNums]))
  clear hR hO ha hcl hm hb hab hN
  go_enter Try.func23, Try.ntmps23
  go_wp2_with fail
  refine (may_any W R O ra oa rc oc B g o _ hW (HR.out.same HC0.out) hrl HCL.out (HO.out.chg HC0.out (fun _ h => h)) HA.out hol).mono ?_
  rintro e w2 ⟨rfl, hc2⟩
  rw [HM.out]
  obtain ⟨b0, b1, b2, hb3⟩ := HB0.out w2 hc2
  have HC2 := Lib.hid (HC0.out.trans hc2)
  have HS0 : Hid (PutSt w2 w2.heap.size (w2.alloc (.cells #[.slice none 0 0] 55)) (.slice none 0 0) []) := Lib.hid ⟨⟨by rw [World.cell?_alloc_new]; rfl, World.frozen?_alloc_new _ _ _ _, .inl ⟨rfl, rfl⟩⟩, (Chg.refl _ _).alloc _⟩
  have HBB : Hid (∀ wr, Chg (fun k => w2.heap.size ≤ k) w2 wr → wr.cell? ⟨w.heap.size, 0, none⟩ = some (.int .i64 W) ∧ wr.cell? ⟨w.heap.size, 1, none⟩ = some (.slice ra R.length rc) ∧ wr.cell? ⟨w.heap.size, 2, none⟩ = some (.slice oa O.length oc)) := Lib.hid fun wr hc =>
    ⟨hc.cellS b0 (by show ¬ w2.heap.size ≤ w.heap.size; omega), hc.cellS b1 (by show ¬ w2.heap.size ≤ w.heap.size; omega), hc.cellS b2 (by show ¬ w2.heap.size ≤ w.heap.size; omega)⟩
  obtain ⟨wb, hwb⟩ : ∃ wb, wb = w2.alloc (.cells #[.slice none 0 0] 55) := ⟨_, rfl⟩
  have HWB := Lib.hid hwb
  rw [← hwb] at HS0
  obtain ⟨b0, b1, b2⟩ := HBB.out (w2.alloc (.cells #[.slice none 0 0] 55)) ((Chg.refl _ _).alloc _)
  rw [hwb] at HS0
  clear hc2 HB0 hwb HWB
  go_wp2_with fail
  refine (putFn_any (W) _ _ _ _ HS0.out.fld (HWT.out) (Nat.le_trans (HBL.out _ (tabNums (W, R, O)) (rfl)) (by omega))).mono ?_
  rintro e w3 ⟨v3, rfl, hf3, hc3, hk3⟩
  have HS1 := Lib.hid (HS0.out.put hf3 hc3)
  clear hf3 hc3 hk3
  obtain ⟨b0, b1, b2⟩ := HBB.out w3 HS1.out.chg
  clear HS0
  go_wp2_with fail
  refine (putFn_any ((R.length : Int)) _ _ _ _ HS1.out.fld (HRT.out) (Nat.le_trans (HBL.out _ (R.length :: (R.flatMap rowPut ++ (O.length : Int) :: O)) (rfl)) (by omega))).mono ?_
  rintro e w4 ⟨v4, rfl, hf3, hc3, hk3⟩
  have HS2 := Lib.hid (HS1.out.put hf3 hc3)
  clear hf3 hc3 hk3
  obtain ⟨b0, b1, b2⟩ := HBB.out w4 HS2.out.chg
  clear HS1
  go_wp2_with fail
  go_loopw [31] (fun q wr => ∃ (k : Nat) (v : Value), k ≤ R.length ∧ q = .int .i64 k ∧ PutSt w2 w2.heap.size wr v (W :: (R.length : Int) :: (R.take k).flatMap rowPut)) (fun q _ => R.length - (intOf q).toNat)
  case atStart => exact ⟨0, v4, by omega, rfl, by simpa using HS2.out⟩
  case round =>
    clear HS2 b0 b1 b2
    obtain ⟨k, v, hk, rfl, hs⟩ := hrel
    have HS := Lib.hid hs
    obtain ⟨b0, b1, b2⟩ := HBB.out wr hs.chg
    have HCW := Lib.hid (HC2.out.trans (hs.chg.fresh))
    clear hs
    by_cases hkl : k < R.length
    · have b32 : decide ((k : Int) < (R.length : Int)) = true := by simp; omega
      obtain ⟨r, g', o', xa, xc, hr, rfl, c0, c1, hrb, hin, -, -⟩ := HR.out.get rfl (fun _ => rfl) hkl
      obtain ⟨rd, rl⟩ := r
      simp only at c0 c1 hin hrb
      have c0 := HCW.out.cellS c0 (fun h => h)
      have c1 := HCW.out.cellS c1 (fun h => h)
      have HRK := Lib.hid hr
      have HIN := Lib.hid hin
      have HRL := Lib.hid (HCL.out _ (List.mem_of_getElem? hr))
      have HSP := Lib.hid (rowSplit (W := W) (O := O) hr)
      have hdb := HT.out (rd + 1) (by rw [HSP.out]; simp [rowPut])
      have hlb := HT.out (rl.length : Int) (by rw [HSP.out]; simp [rowPut])
      have HTK : Hid (R.take (k + 1) = R.take k ++ [(rd, rl)]) := Lib.hid (by rw [List.take_add_one, hr]; rfl)
      obtain ⟨hdb0, hdb1⟩ := hdb
      have HDB := Lib.hid (And.intro hdb0 hdb1)
      have HLB := Lib.hid hlb
      have HSA := Lib.hid (HS.out.alloc (.cells #[.int .i64 rd, .slice xa rl.length xc] 27))
      have HAP := Lib.hid (HS.out.fresh (.cells #[.int .i64 rd, .slice xa rl.length xc] 27))
      have r0 : (wr.alloc (.cells #[.int .i64 rd, .slice xa rl.length xc] 27)).cell? ⟨wr.heap.size, 0, none⟩ = some (.int .i64 rd) := by rw [World.cell?_alloc_new]; rfl
      have r1 : (wr.alloc (.cells #[.int .i64 rd, .slice xa rl.length xc] 27)).cell? ⟨wr.heap.size, 1, none⟩ = some (.slice xa rl.length xc) := by rw [World.cell?_alloc_new]; rfl
      obtain ⟨rb, hrbx⟩ : ∃ rb, rb = wr.heap.size := ⟨_, rfl⟩
      clear hr hin hrb hlb
      go_wp2_with fail
      refine (putFn_any (rd + 1) _ _ _ _ HSA.out.fld (HDB.out) (Nat.le_trans (HBL.out _ (_) (by exact HSP.out)) (by omega))).mono ?_
      rintro e w5 ⟨v5, rfl, hf3, hc3, hk3⟩
      have HS5 := Lib.hid (HSA.out.put hf3 hc3)
      have HAP5 := Lib.hid (HAP.out.next hc3 hk3)
      have r05 := HAP.out.keep hc3 r0
      have r15 := HAP.out.keep hc3 r1
      clear hf3 hc3 hk3
      clear HSA HAP r0 r1
      go_wp2_with fail
      refine (putFn_any ((rl.length : Int)) _ _ _ _ HS5.out.fld (HLB.out) (Nat.le_trans (HBL.out _ ((rl.length : Int) :: cellsPut 0 rl ++ ((R.drop (k + 1)).flatMap rowPut ++ (O.length : Int) :: O)) (by rw [HSP.out]; simp [rowPut])) (by omega))).mono ?_
      rintro e w6 ⟨v6, rfl, hf3, hc3, hk3⟩
      have HS6 := Lib.hid (HS5.out.put hf3 hc3)
      have HAP6 := Lib.hid (HAP5.out.next hc3 hk3)
      have r06 := HAP5.out.keep hc3 r05
      have r16 := HAP5.out.keep hc3 r15
      clear hf3 hc3 hk3
      clear HS5 HAP5 r05 r15
      go_wp2_with fail
      have HRLE : Hid (rl.length ≤ 1000000000) := HRL
      clear b0 b1 b2 r06 r16 HAP6 c0 c1 b32 hrbx rb
      obtain ⟨wi, rfl⟩ : ∃ wi : World, wi = wr := ⟨_, rfl⟩
      go_loopw [10, 48] (fun lv q wr => ∃ (j : Nat) (v : Value), j ≤ rl.length ∧ q = .int .i64 j ∧ lv = .int .i64 (lastOf 0 (rl.take j)) ∧ PutSt w2 w2.heap.size wr v ((W :: (R.length : Int) :: (R.take k).flatMap rowPut) ++ [rd + 1] ++ [(rl.length : Int)] ++ cellsPut 0 (rl.take j))) (fun _ q _ => rl.length - (intOf q).toNat)
      case atStart => exact ⟨0, v6, by omega, rfl, rfl, by simpa [cellsPut] using HS6.out⟩
      case round =>
        clear HS6 HS
        obtain ⟨j, v, hj, rfl, rfl, hs⟩ := hrel
        have HS := Lib.hid hs
        have HCJ := Lib.hid (HC2.out.trans (hs.chg.fresh))
        have hrl9 := HRLE.out
        clear hs
        by_cases hjl : j < rl.length
        · have b49 : decide ((j : Int) < (rl.length : Int)) = true := by simp; omega
          obtain ⟨x, gx, ox, u, vv, hx, rfl, hp, c0, c1, hok, -, -⟩ := (HIN.out.same HCJ.out).get2 rfl hjl
          obtain ⟨rfl, rfl⟩ := pairOf hp
          obtain ⟨x0, x1⟩ := x
          obtain ⟨⟨p0, p1⟩, ⟨p2, p3⟩⟩ := hok
          simp only at c0 c1 p0 p1 p2 p3
          have HCS := Lib.hid (cellSplit (d := rd) hx)
          have HSN : Hid (cellsPut 0 (rl.take (j + 1)) = cellsPut 0 (rl.take j) ++ [x0 - lastOf 0 (rl.take j), x1 + 1]) := Lib.hid (by rw [List.take_add_one, hx]; exact cellsPut_snoc _ _ _)
          have HLN : Hid (lastOf 0 (rl.take (j + 1)) = x0) := Lib.hid (by rw [List.take_add_one, hx]; exact lastOf_snoc _ _ _)
          have hd0 := HT.out (x0 - lastOf 0 (rl.take j)) (by rw [HSP.out, HCS.out]; simp)
          have hd1 := HT.out (x1 + 1) (by rw [HSP.out, HCS.out]; simp)
          obtain ⟨lz, hlz⟩ : ∃ lz, lastOf 0 (rl.take j) = lz := ⟨_, rfl⟩
          rw [hlz] at HSN hd0 HCS ⊢
          have HD0 := Lib.hid hd0
          have HD1 := Lib.hid hd1
          obtain ⟨e0, e1⟩ := hd0
          obtain ⟨e2, e3⟩ := hd1
          have HPRE : Hid (tabNums (W, R, O) = ((W :: (R.length : Int) :: (R.take k).flatMap rowPut) ++ [rd + 1] ++ [(rl.length : Int)] ++ cellsPut 0 (rl.take j)) ++ ((x0 - lz) :: (x1 + 1) :: cellsPut x0 (rl.drop (j + 1)) ++ ((R.drop (k + 1)).flatMap rowPut ++ (O.length : Int) :: O))) := Lib.hid (by rw [HSP.out, HCS.out]; simp)
          have HSA := Lib.hid (HS.out.alloc (.cells #[.int .i64 x0, .int .i64 x1] 79))
          have HAP := Lib.hid (HS.out.fresh (.cells #[.int .i64 x0, .int .i64 x1] 79))
          have r0 : (wr.alloc (.cells #[.int .i64 x0, .int .i64 x1] 79)).cell? ⟨wr.heap.size, 0, none⟩ = some (.int .i64 x0) := by rw [World.cell?_alloc_new]; rfl
          have r1 : (wr.alloc (.cells #[.int .i64 x0, .int .i64 x1] 79)).cell? ⟨wr.heap.size, 1, none⟩ = some (.int .i64 x1) := by rw [World.cell?_alloc_new]; rfl
          clear hx hp hlz HCS
          go_wp2_with fail
          refine (putFn_any (x0 - lz) _ _ _ _ HSA.out.fld (HD0.out) (Nat.le_trans (HBL.out _ (_) (by exact HPRE.out)) (by omega))).mono ?_
          rintro e w5 ⟨v5, rfl, hf3, hc3, hk3⟩
          have HS5 := Lib.hid (HSA.out.put hf3 hc3)
          have HAP5 := Lib.hid (HAP.out.next hc3 hk3)
          have r05 := HAP.out.keep hc3 r0
          have r15 := HAP.out.keep hc3 r1
          clear hf3 hc3 hk3
          clear HSA HAP r0 r1
          go_wp2_with fail
          refine (putFn_any (x1 + 1) _ _ _ _ HS5.out.fld (HD1.out) (Nat.le_trans (HBL.out _ ((x1 + 1) :: cellsPut x0 (rl.drop (j + 1)) ++ ((R.drop (k + 1)).flatMap rowPut ++ (O.length : Int) :: O)) (by rw [HPRE.out]; simp)) (by omega))).mono ?_
          rintro e w6 ⟨v6, rfl, hf3, hc3, hk3⟩
          have HS6 := Lib.hid (HS5.out.put hf3 hc3)
          have HAP6 := Lib.hid (HAP5.out.next hc3 hk3)
          have r06 := HAP5.out.keep hc3 r05
          have r16 := HAP5.out.keep hc3 r15
          clear hf3 hc3 hk3
          clear HS5 HAP5 r05 r15
          go_wp2
          go_roundw
          case rel => exact ⟨j + 1, _, by omega, by go_num, by rw [HLN.out], by rw [HSN.out]; simpa using HS6.out⟩
          case measure => simp [intOf]; omega
        · obtain rfl : j = rl.length := by omega
          have HSX : Hid (PutSt w2 w2.heap.size wr v (W :: (R.length : Int) :: (R.take (k + 1)).flatMap rowPut)) := Lib.hid (by
            have := HS.out
            rw [List.take_length] at this
            rw [HTK.out]
            simpa [rowPut] using this)
          clear HS
          go_wp2
          go_roundw
          case rel => exact ⟨k + 1, v, by omega, by go_num, HSX.out⟩
          case measure => simp [intOf]; omega
    · obtain rfl : k = R.length := by omega
      have HSX : Hid (PutSt w2 w2.heap.size wr v (W :: (R.length : Int) :: R.flatMap rowPut)) := Lib.hid (by have := HS.out; rwa [List.take_length] at this)
      clear HS
      go_wp2_with fail
      refine (putFn_any ((O.length : Int)) _ _ _ _ HSX.out.fld (HOT.out) (Nat.le_trans (HBL.out _ ((O.length : Int) :: O) (by simp [tabNums])) (by omega))).mono ?_
      rintro e w4 ⟨v4, rfl, hf3, hc3, hk3⟩
      have HS2 := Lib.hid (HSX.out.put hf3 hc3)
      clear hf3 hc3 hk3
      obtain ⟨b0, b1, b2⟩ := HBB.out w4 HS2.out.chg
      clear HSX
      go_wp2_with fail
      obtain ⟨wi, rfl⟩ : ∃ wi : World, wi = wr := ⟨_, rfl⟩
      clear b0 b1 b2 HCW
      go_loopw [75] (fun q wr => ∃ (k : Nat) (v : Value), k ≤ O.length ∧ q = .int .i64 k ∧ PutSt w2 w2.heap.size wr v ((W :: (R.length : Int) :: R.flatMap rowPut) ++ [(O.length : Int)] ++ O.take k)) (fun q _ => O.length - (intOf q).toNat)
      case atStart => exact ⟨0, v4, by omega, rfl, by simpa using HS2.out⟩
      case round =>
        clear HS2
        obtain ⟨k, v, hk, rfl, hs⟩ := hrel
        have HS := Lib.hid hs
        have HCJ := Lib.hid (HC2.out.trans (hs.chg.fresh))
        obtain ⟨b0, b1, b2⟩ := HBB.out wr hs.chg
        clear hs
        by_cases hkl : k < O.length
        · have b76 : decide ((k : Int) < (O.length : Int)) = true := by simp; omega
          obtain ⟨i, hi, c1, i0, i1⟩ := (HO.out.chg HCJ.out (fun _ h => h)).get hkl
          have e1 := HA.out (by omega)
          subst e1
          have HSP := Lib.hid (offSplit (W := W) (R := R) hi)
          have HIB := Lib.hid (HT.out i (by rw [HSP.out]; simp))
          have HTK : Hid (O.take (k + 1) = O.take k ++ [i]) := Lib.hid (by rw [List.take_add_one, hi]; rfl)
          clear hi
          go_wp2_with fail
          refine (putFn_any (i) _ _ _ _ HS.out.fld (HIB.out) (Nat.le_trans (HBL.out _ (_) (by exact HSP.out)) (by omega))).mono ?_
          rintro e w5 ⟨v5, rfl, hf3, hc3, hk3⟩
          have HS5 := Lib.hid (HS.out.put hf3 hc3)
          clear hf3 hc3 hk3
          clear HS
          go_wp2
          go_roundw
          case rel => exact ⟨k + 1, _, by omega, by go_num, by rw [HTK.out, ← List.append_assoc]; exact HS5.out⟩
          case measure => simp [intOf]; omega
        · obtain rfl : k = O.length := by omega
          have HSX : Hid (PutSt w2 w2.heap.size wr v (tabNums (W, R, O))) := Lib.hid (by have := HS.out; rw [List.take_length] at this; simpa [tabNums] using this)
          have HYL := Lib.hid (HBL.out (tabNums (W, R, O)) [] (by simp))
          have HYP := Lib.hid (bytesOf_pos (X := tabNums (W, R, O)) (by simp [tabNums]))
          obtain ⟨Y, hY⟩ : ∃ Y, bytesOf (tabNums (W, R, O)) = Y := ⟨_, rfl⟩
          have HYE : Hid (putTab (W, R, O) = Y) := Lib.hid hY
          have HCV := Lib.hid HSX.out.fld.c
          have HOW := Lib.hid HSX.out.fld.own
          have HCH := Lib.hid HSX.out.chg
          rw [hY] at HYL HYP HOW
          obtain ⟨hh, C, hv, hBh, hRow, hpre, hmax⟩ := HOW.out.some (by intro e; have := HYP.out; rw [e] at this; simp at this)
          subst hv
          have c6 := HCV.out
          have HYB := Lib.hid (hRow.bytes hpre)
          have HCA := Lib.hid ((Chg.refl (fun _ => False) wr).alloc (.cells #[.slice ab Z.length cb, .slice (some ⟨hh, 0, none⟩) Y.length C.length] 55))
          clear hRow hpre hBh HS HSX HCV HOW hY
          go_wp2_with fail
          refine (concat_gen Z Y ab gb ob cb hh C.length wr.heap.size _ (HBZ.out.chg (HCJ.out.trans HCA.out) (fun _ h => h)) HAB.out (HYB.out.chg HCA.out (fun _ h => h)) HYP.out (by omega) HYL.out (by simp) (by simp)).mono ?_
          rintro e w7 ⟨v7, rfl, hown7, hc7⟩
          obtain ⟨h7, C7, rfl, hB7, hRow7, hpre7, hmax7⟩ := hown7.some (by intro e; have h1 := HYP.out; have h2 := congrArg List.length e; rw [List.length_append, List.length_nil] at h2; omega)
          have HFIN : Hid (Row w7 h7 (Z ++ Y) ∧ w.heap.size ≤ h7 ∧ Chg (fun _ => False) w w7) := Lib.hid ⟨⟨fun k a hk => by have := (hRow7.bytes hpre7).c k a hk; rw [Nat.zero_add] at this; exact this.1, hRow7.z, hRow7.lt, fun a ha => hRow7.byte a (hpre7.subset ha)⟩, Nat.le_trans HCJ.out.size (Nat.le_trans HCA.out.size hB7), (HCJ.out.trans HCA.out).trans hc7⟩
          have hple := hpre7.length_le
          rw [List.length_append] at hple
          clear hown7 hc7 hRow7 hpre7 hB7
          go_wp2_with fail
          refine (clip_any w7 h7 _ _ hple).mono ?_
          rintro e w8 ⟨rfl, rfl⟩
          go_wp2
          go_ret2
          exact ⟨h7, by rw [HYE.out]; simp only [List.length_append]; rfl, HFIN.out.2.1, by rw [HYE.out]; exact HFIN.out.1, HFIN.out.2.2⟩
end Go.Proofs.Ytkfakkonlnjckaa
