/- The document's table of lists: harbingerref18.Make. -/
import Derived.Test.YtkfakkonlnjckaaRowsT
import Derived.Test.YtkfakkonlnjckaaRowsX
namespace Go.Proofs.Ytkfakkonlnjckaa
open Go.RowKit

theorem rowEq_comm (r s : RowD) : rowEq r s = rowEq s r := by
  unfold rowEq
  by_cases h : r = s
  · rw [h]
  · rw [decide_eq_false h, decide_eq_false (fun e => h e.symm)]

theorem rowOwnR_unique {w : World} {B : Nat} {v : Value} {X Y : List (Int × Sl)} (h : rowR.Own w B v X) (k : rowR.Own w B v Y) : X = Y := by
  have key : ∀ (n : Nat) (X Y : List (Int × Sl)) (C D : List (Int × Sl)) (g : Nat), X.length = n → Y.length = n → rowR.Row w g C → rowR.Row w g D → X <+: C → Y <+: D → X = Y := by
    intro n X Y C D g hX hY hC hD hXC hYD
    apply List.ext_getElem (by omega)
    intro i h1 h2
    have c := (hC.at' hXC)
    have d := (hD.at' hYD)
    have ex : X[i]? = some X[i] := List.getElem?_eq_getElem h1
    have ey : Y[i]? = some Y[i] := List.getElem?_eq_getElem h2
    have a0 := c.get ex (i := 0) (u := .int .i64 X[i].1) rfl
    have b0 := d.get ey (i := 0) (u := .int .i64 Y[i].1) rfl
    have a1 := c.get ex (i := 1) (u := slV X[i].2) rfl
    have b1 := d.get ey (i := 1) (u := slV Y[i].2) rfl
    rw [a0] at b0
    rw [a1] at b1
    injection b0 with b0
    injection b0 with _ b0
    injection b1 with b1
    unfold slV at b1
    injection b1 with e1 e2 e3
    exact Prod.ext b0 (Prod.ext e1 (Prod.ext e2 e3))
  rcases h with ⟨rfl, rfl⟩ | ⟨g, C, rfl, _, hC, hp, _⟩
  · rcases k with ⟨_, rfl⟩ | ⟨g, D, e, _⟩
    · rfl
    · cases e
  · rcases k with ⟨e, _⟩ | ⟨g', D, e, _, hD, hq, _⟩
    · cases e
    · injection e with e1 e2 e3
      injection e1 with e1
      injection e1 with e1
      subst e1
      exact key X.length X Y C D _ rfl e2.symm hC hD hp hq
theorem makeL_rows (LL : List (List Int)) : ∀ r ∈ (makeL LL).1, ∃ l ∈ LL, r = rowL l := by
  have key : ∀ (LL : List (List Int)) (t : List RowD × List Int) (r : RowD), r ∈ (LL.foldl (fun t l => addL t (rowL l)) t).1 → r ∈ t.1 ∨ ∃ l ∈ LL, r = rowL l := by
    intro LL
    induction LL with
    | nil => intro t r h; exact .inl h
    | cons l LL ih =>
      intro t r h
      rcases ih (addL t (rowL l)) r h with h | ⟨l', h1, h2⟩
      · unfold addL at h
        split at h
        · exact .inl h
        · rcases List.mem_append.1 h with h | h
          · exact .inl h
          · exact .inr ⟨l, by simp, List.mem_singleton.1 h⟩
      · exact .inr ⟨l', by simp [h1], h2⟩
  intro r h
  rcases key LL ([], []) r h with h | h
  · cases h
  · exact h
theorem refMake_widthBad (W : Int) (a : Option Addr) (n c : Nat) (w : World) (hW : ¬ (0 ≤ W ∧ W ≤ 65536)) :
    Calls Try.prog 19 #[.int .i64 W, .slice a n c] w fun e w' => e = .returned (tabV 0 none 0 0 none 0 0 1) ∧ Chg (fun _ => False) w w' := by
  have HC0 := Lib.hid ((Chg.refl (fun _ => False) w).alloc (.cells #[.int .i64 0, .slice none 0 0, .slice none 0 0] 50))
  by_cases h1 : 0 ≤ W
  · have d1 : decide (W < 0) = false := by simp; omega
    have d2 : decide (65536 < W) = true := by simp; omega
    go_enter Try.func19, Try.ntmps19
    go_wp2
    exact bodyPost_ret (v := .tuple #[.agg #[.int .i64 0, .slice none 0 0, .slice none 0 0], .int .i64 1]) (by simp [results, Try.results19, go_sem]) rfl ⟨rfl, HC0.out⟩
  · have d1 : decide (W < 0) = true := by simp; omega
    go_enter Try.func19, Try.ntmps19
    go_wp2
    exact bodyPost_ret (v := .tuple #[.agg #[.int .i64 0, .slice none 0 0, .slice none 0 0], .int .i64 1]) (by simp [results, Try.results19, go_sem]) rfl ⟨rfl, HC0.out⟩

/-- What the document's Make answers. -/
def RefMakePost (w : World) (W : Int) (LL : List (List Int)) (e : Ending) (w' : World) : Prop :=
  (makeOk W LL = false ∧ e = .returned (tabV 0 none 0 0 none 0 0 1) ∧ Chg (fun _ => False) w w') ∨
  (makeOk W LL = true ∧ ∃ ra oa rc oc, e = .returned (tabV W ra (makeL LL).1.length rc oa (makeL LL).2.length oc 0) ∧ RowsIn cellR rowR w' w.heap.size (ra, (makeL LL).1.length, rc) (makeL LL).1 ∧ OfIn w' w.heap.size oa (makeL LL).2 ∧ (makeL LL).2.length ≤ oc ∧ Chg (fun _ => False) w w')

set_option maxRecDepth 100000 in
set_option maxHeartbeats 16000000 in
theorem refMake_any (W : Int) (LL : List (List Int)) (a : Option Addr) (c B : Nat) (w : World) (h : ListsIn w B (a, LL.length, c) LL) (h0 : 0 ≤ W) (h1 : W ≤ 65536) (hn : LL.length ≤ 65536) (hl : ∀ l ∈ LL, l.length ≤ 65536) :
    Calls Try.prog 19 #[.int .i64 W, .slice a LL.length c] w (RefMakePost w W LL) := by
  have HL := Lib.hid h
  have HLL := Lib.hid hl
  have d1 : decide (W < 0) = false := by simp; omega
  have d2 : decide (65536 < W) = false := by simp; omega
  have HC0 := Lib.hid ((Chg.refl (fun k => w.heap.size ≤ k) w).alloc (.cells #[.int .i64 0, .slice none 0 0, .slice none 0 0] 50))
  have HR0 : Hid (∀ wr, Chg (fun k => w.heap.size + 1 ≤ k) (w.alloc (.cells #[.int .i64 0, .slice none 0 0, .slice none 0 0] 50)) wr → (wr.cell? ⟨w.heap.size, 0, none⟩ = some (.int .i64 0) ∧ wr.cell? ⟨w.heap.size, 1, none⟩ = some (.slice none 0 0) ∧ wr.cell? ⟨w.heap.size, 2, none⟩ = some (.slice none 0 0)) ∧ ∀ j, wr.frozen? ⟨w.heap.size, j, none⟩ = false) := Lib.hid fun wr hc =>
    ⟨⟨hc.cellS (by simp) (by show ¬ w.heap.size + 1 ≤ w.heap.size; omega), hc.cellS (by simp) (by show ¬ w.heap.size + 1 ≤ w.heap.size; omega), hc.cellS (by simp) (by show ¬ w.heap.size + 1 ≤ w.heap.size; omega)⟩, fun j => (hc.frozen (p := ⟨w.heap.size, j, none⟩) (by simp) (by show ¬ w.heap.size + 1 ≤ w.heap.size; omega)).trans (World.frozen?_alloc_new _ _ _ _)⟩
  obtain ⟨w1, hw1⟩ : ∃ w1, w1 = w.alloc (.cells #[.int .i64 0, .slice none 0 0, .slice none 0 0] 50) := ⟨_, rfl⟩
  have hs1 : w1.heap.size = w.heap.size + 1 := by rw [hw1]; simp
  have HT0 : Hid (TabSt cellR rowR (w.heap.size + 1) (w1.alloc (.cells #[.int .i64 W, .slice none 0 0, .slice none 0 0] 50)) W [] [] (.slice none 0 0) (.slice none 0 0)) := Lib.hid (by
    rw [← hs1]
    exact ⟨by rw [World.cell?_alloc_new]; rfl, by rw [World.cell?_alloc_new]; rfl, World.frozen?_alloc_new _ _ _ _, by rw [World.cell?_alloc_new]; rfl, World.frozen?_alloc_new _ _ _ _, ⟨[], .nil _ _, rfl, fun j x r hx => by simp at hx⟩, .nil _ _, fun g hg => by cases hg⟩)
  have HC1 : Hid (Chg (fun k => w.heap.size + 1 ≤ k) w1 (w1.alloc (.cells #[.int .i64 W, .slice none 0 0, .slice none 0 0] 50))) := Lib.hid ((Chg.refl _ _).alloc _)
  rw [← hw1] at HC0 HR0
  have HW1 := Lib.hid hw1
  clear h hl hw1 hs1
  go_enter Try.func19, Try.ntmps19
  go_wp2
  rw [← HW1.out]
  go_loopw [7] (fun q wr => ∃ (k : Nat) (v u : Value), k ≤ LL.length ∧ q = .int .i64 k ∧ makeOk W (LL.take k) = true ∧ TabSt cellR rowR (w.heap.size + 1) wr W (makeL (LL.take k)).1 (makeL (LL.take k)).2 v u ∧ Chg (fun k => w.heap.size + 1 ≤ k) w1 wr) (fun q _ => LL.length - (intOf q).toNat)
  case atStart => exact ⟨0, _, _, by omega, rfl, rfl, HT0.out, HC1.out⟩
  case round =>
    clear HT0 HC1
    obtain ⟨k, v, u, hk, rfl, hok, ht, hc⟩ := hrel
    have HOK := Lib.hid hok
    have HT := Lib.hid ht
    have HC := Lib.hid hc
    have HCW := Lib.hid ((HC0.out.trans (hc.mono (T := fun k => w.heap.size ≤ k) (fun k _ e => by omega))).fresh)
    clear hok ht hc
    by_cases hkl : k < LL.length
    · have b28 : decide ((k : Int) < (LL.length : Int)) = true := by simp; omega
      obtain ⟨l, g, o, la, lc, gl, ol, hlk, rfl, c0, hlc, hla, hlp, hgw, -⟩ := (HL.out.same HCW.out).get hkl
      have HLK := Lib.hid hlk
      have HLA := Lib.hid hla
      have HLP : Hid (0 < l.length → la = some ⟨gl, ol, none⟩) := Lib.hid (fun h => (hlp h).1)
      have hl6 := HLL.out l (List.mem_of_getElem? hlk)
      have HTK : Hid (LL.take (k + 1) = LL.take k ++ [l]) := Lib.hid (by rw [List.take_add_one, hlk]; rfl)
      have HBADP : Hid (listOk W l = false → makeOk W LL = false) := Lib.hid (fun h => by
        unfold makeOk
        rw [List.all_eq_false]
        exact ⟨l, List.mem_of_getElem? HLK.out, by simp [h]⟩)
      have HD1 := Lib.hid (ofD_int l hla.byte)
      have HLE := Lib.hid (ofL_le l)
      have HEQ : Hid (noValB l = false → (ofD l = usualL l ∧ ofL l = cellsFrom (usualL l) 0 l ∧ ofE l = 0)) := Lib.hid (fun h => ⟨by simp [ofD, h], by simp [ofL, h], by simp [ofE, h]⟩)
      have HEB : Hid (noValB l = true → ofE l = 1) := Lib.hid (fun h => by simp [ofE, h])
      clear hlk hla hlp
      go_wp2_with fail
      refine (refOf_all l la gl ol lc wr HLA.out HLP.out hl6).mono ?_
      rintro e w2 ⟨⟨sa, sn, sc⟩, rfl, hin, hc2⟩
      obtain rfl : sn = (ofL l).length := hin.1
      unfold ofV slV
      simp only
      obtain ⟨wb, hwb⟩ : ∃ x, x = w2.alloc (.cells #[.int .i64 (ofD l), .slice sa (ofL l).length sc] 33) := ⟨_, rfl⟩
      have HCA : Hid (Chg (fun _ => False) wr wb) := Lib.hid (by rw [hwb]; exact hc2.alloc _)
      have HTB := Lib.hid (HT.out.same HCA.out)
      have HCB := Lib.hid (HCW.out.trans HCA.out)
      have HCX := Lib.hid (HC.out.trans HCA.out.any)
      have HBS : Hid (w.heap.size + 2 ≤ wr.heap.size) := Lib.hid (by have := HT.out.lt; omega)
      have HIN : Hid (cellR.In wb wr.heap.size (sa, (ofL l).length, sc) (ofL l)) := Lib.hid (by rw [hwb]; exact hin.same ((Chg.refl _ _).alloc _))
      have HBX : Hid (∀ wx, Chg (fun _ => False) wb wx → wx.cell? ⟨w2.heap.size, 0, none⟩ = some (.int .i64 (ofD l)) ∧ wx.cell? ⟨w2.heap.size, 1, none⟩ = some (.slice sa (ofL l).length sc)) := Lib.hid (fun wx hx => by subst hwb; exact ⟨hx.cellS (by simp) (fun h => h), hx.cellS (by simp) (fun h => h)⟩)
      have HWB := Lib.hid hwb
      have HXI : Hid (RowIn cellR wb (w.heap.size + 1 + 1) (ofD l, sa, (ofL l).length, sc) (ofD l, ofL l)) := Lib.hid ⟨rfl, HD1.out, HIN.out.lower (by have := HBS.out; omega)⟩
      have HXA : Hid (0 < (ofL l).length → ∀ g o, sa = some ⟨g, o, none⟩ → v.ownBlock ≠ some g ∧ u.ownBlock ≠ some g ∧ w.heap.size + 1 < g) := Lib.hid (fun hp g o hg => by
        obtain ⟨_, _, g', o', _, k5⟩ := HIN.out
        obtain ⟨h6, h7⟩ := k5 hp
        change sa = _ at h6
        rw [hg] at h6
        injection h6 with h6
        injection h6 with h6
        subst h6
        obtain ⟨X, hX, _⟩ := HT.out.rows
        have := HBS.out
        exact ⟨fun e => by have := (hX.blk e).2; omega, fun e => by have := (HT.out.of.blk e).2; omega, by omega⟩)
      obtain ⟨va, vn, vc, rfl⟩ : ∃ a n c, v = .slice a n c := by obtain ⟨X, h1, _⟩ := HT.out.rows; exact h1.shape3
      obtain ⟨ua, un, uc, rfl⟩ := HT.out.of.shape3
      obtain ⟨-, -, hvn, hun, hle1, hle2⟩ := HT.out.final (Chg.refl _ _)
      subst hvn hun
      have HML := Lib.hid (makeL_len (LL.take k))
      have hR1 : (makeL (LL.take k)).1.length ≤ 1000000 := by have := HML.out.1; have := List.length_take_le k LL; omega
      have hO1 : (makeL (LL.take k)).2.length ≤ 1000000 := by have := HML.out.2; have := List.length_take_le k LL; omega
      have hl9 : (ofL l).length ≤ 1000000000 := by have := HLE.out; omega
      have HSN : Hid (noValB l = false → makeL (LL.take (k + 1)) = addL (makeL (LL.take k)) (ofD l, ofL l)) := Lib.hid (fun h => by rw [HTK.out, makeL_snoc, (HEQ.out h).1, (HEQ.out h).2.1]; rfl)
      have HOK2 : Hid (listOk W l = true → makeOk W (LL.take (k + 1)) = true) := Lib.hid (fun h => by
        have := HOK.out
        unfold makeOk at this ⊢
        rw [HTK.out, List.all_append, this]
        simp [h])
      have HRLEN : Hid (∀ r ∈ (makeL (LL.take k)).1, r.2.length ≤ 1000000000) := Lib.hid (fun r hr => by
        obtain ⟨l', h1, rfl⟩ := makeL_rows _ r hr
        have := cellsFrom_le (usualL l') l' 0
        have := HLL.out l' (List.mem_of_mem_take h1)
        show (cellsFrom (usualL l') 0 l').length ≤ _
        omega)
      obtain ⟨RR, hRR⟩ : ∃ RR, (makeL (LL.take k)).1 = RR := ⟨_, rfl⟩
      obtain ⟨OO, hOO⟩ : ∃ OO, (makeL (LL.take k)).2 = OO := ⟨_, rfl⟩
      have HPE : Hid (makeL (LL.take k) = (RR, OO)) := Lib.hid (by rw [← hRR, ← hOO])
      rw [hRR] at hR1 hle1 HTB HXA HRLEN
      rw [hOO] at hO1 hle2 HTB HXA
      obtain ⟨D, hD⟩ : ∃ D, ofD l = D := ⟨_, rfl⟩
      obtain ⟨X, hX⟩ : ∃ X, ofL l = X := ⟨_, rfl⟩
      obtain ⟨E, hE⟩ : ∃ E, ofE l = E := ⟨_, rfl⟩
      rw [hX] at HIN
      rw [hD, hX] at HBX HXI HSN HWB
      rw [hX] at HXA hl9
      rw [hE] at HEB
      rw [hD, hX, hE]
      have HE0 : Hid (noValB l = false → E = 0) := Lib.hid (fun h => by rw [← hE]; exact (HEQ.out h).2.2)
      clear hin hc2 hwb hRR hOO hD hX hE HEQ HML HT HC HD1
      have c0 := HCA.out.cellS c0 (fun h => h)
      go_upto_region 8 with (fail)
      rw [← HWB.out]
      by_cases hnv : noValB l = true
      · have HMB := Lib.hid (HBADP.out (by unfold listOk; rw [hnv]; rfl))
        have hE1 := HEB.out hnv
        subst hE1
        clear c0
        obtain ⟨⟨r0, r1, r2⟩, hz⟩ := HR0.out wb HCX.out
        have z0 := hz 0
        have z1 := hz 1
        have z2 := hz 2
        clear hz
        go_wp2
        obtain ⟨f0, f1, f2, f3⟩ := store3 (.int .i64 0) (.slice none 0 0) (.slice none 0 0) r0 r1 r2
        have h4 := ((HCB.out.any (S := fun k => w.heap.size ≤ k)).trans (f3.mono (fun k _ e => by omega))).fresh
        clear f3
        generalize ((wb.setCell ⟨w.heap.size, 0, none⟩ (.int .i64 0)).setCell ⟨w.heap.size, 1, none⟩ (.slice none 0 0)).setCell ⟨w.heap.size, 2, none⟩ (.slice none 0 0) = WW at *
        exact bodyPost_ret (v := .tuple #[.agg #[.int .i64 0, .slice none 0 0, .slice none 0 0], .int .i64 1]) (by simp [results, Try.results19, go_sem, f0, f1, f2]) rfl (.inl ⟨HMB.out, rfl, h4⟩)
      · have hnv : noValB l = false := by simpa using hnv
        have hE1 := HE0.out hnv
        subst hE1
        by_cases hlw : (l.length : Int) = W
        · have q1 : ((l.length : Int) != W) = false := by simpa using hlw
          have HOKN := Lib.hid (HOK2.out (by unfold listOk; rw [hnv]; simpa using hlw))
          have HSN2 := Lib.hid (HSN.out hnv)
          have c1 := HTB.out.c1
          clear hlw HSN HOK2 HBADP HEB HE0 HLA HLP HLK
          go_wp2_with fail
          go_loopw [10] (fun q wx => ∃ j : Nat, j ≤ RR.length ∧ q = .int .i64 j ∧ (∀ (i : Nat) y, i < j → RR[i]? = some y → rowEq (D, X) y = false) ∧ Chg (fun _ => False) wb wx) (fun q _ => RR.length - (intOf q).toNat)
          case atStart => exact ⟨0, by omega, rfl, fun i y h => absurd h (Nat.not_lt_zero _), Chg.refl _ _⟩
          case round =>
            clear c1 c0 q1
            obtain ⟨j, hj, rfl, hb, hcx⟩ := hrel
            have HB := Lib.hid hb
            have HX := Lib.hid hcx
            have HTX := Lib.hid (HTB.out.same hcx)
            have c1 := HTX.out.c1
            clear hb hcx
            by_cases hjl : j < RR.length
            · have b55 : decide ((j : Int) < (RR.length : Int)) = true := by simp; omega
              obtain ⟨r, g', o', xa, xc, hr, rfl, k0, k1, -, hin, -, -⟩ := HTX.out.rowsIn.1.get rfl (fun _ => rfl) hjl
              obtain ⟨rd, rl⟩ := r
              simp only at k0 k1 hin
              have HRJ := Lib.hid hr
              have HRI := Lib.hid hin
              have HK := Lib.hid (And.intro k0 k1)
              have HRL : Hid (rl.length ≤ 1000000000) := Lib.hid (HRLEN.out _ (List.mem_of_getElem? hr))
              clear hr hin k0 k1
              by_cases hxi : rowEq (D, X) (rd, rl) = true
              · have HF : Hid (idxV (rowEq (D, X)) RR = j) := Lib.hid (idxV_found HRJ.out hxi HB.out)
                have HAL : Hid (addL (RR, OO) (D, X) = (RR, OO ++ [(j : Int)])) := Lib.hid (by
                  have hh : hasRow (D, X) (RR, OO).1 = true := hasRow_iff.2 (by
                    have : (D, X) = (rd, rl) := by simpa [rowEq] using hxi
                    rw [this]; exact List.mem_of_getElem? HRJ.out)
                  unfold addL
                  rw [hh, if_pos rfl]
                  rw [show idxV (rowEq (D, X)) (RR, OO).1 = (j : Int) from HF.out])
                have b72 : ((j : Int) == (RR.length : Int)) = false := by simp; omega
                go_upto_region 11 with (fail)
                refine wp_region_same (fun w' => Chg (fun _ => False) wr w') (by kernel_rfl) (by kernel_rfl) ?_ ?_
                · exact (Chg.refl _ _).drew
                (refine wpC_read rfl (fun _ _ _ h => h) (fun K hK => ?_); apply Exists.intro; refine ⟨fun _ w' _ hC => ?_, ?_⟩; ((skip); go_simp; try with_reducible rfl); (try go_simp); refine hK _ ?_; clear hK K)
                (refine wpC_read rfl (fun _ _ _ h => h) (fun K hK => ?_); apply Exists.intro; refine ⟨fun _ w' _ hC => ?_, ?_⟩; ((skip); go_simp; try with_reducible rfl); (try go_simp); refine hK _ ?_; clear hK K)
                (refine wpC_read rfl (fun _ _ _ h => h) (fun K hK => ?_); apply Exists.intro; refine ⟨fun _ w' _ hC => ?_, ?_⟩; ((have q := (HTX.out.same hC).c1); go_simp; try with_reducible rfl); (try go_simp); refine hK _ ?_; clear hK K)
                (refine wpC_read rfl (fun _ _ _ h => h) (fun K hK => ?_); apply Exists.intro; refine ⟨fun _ w' _ hC => ?_, ?_⟩; ((skip); go_simp; try with_reducible rfl); (try go_simp); refine hK _ ?_; clear hK K)
                (refine wpC_read rfl (fun _ _ _ h => h) (fun K hK => ?_); apply Exists.intro; refine ⟨fun _ w' _ hC => ?_, ?_⟩; ((skip); go_simp; try with_reducible rfl); (try go_simp); refine hK _ ?_; clear hK K)
                (refine wpC_read rfl (fun _ _ _ h => h) (fun K hK => ?_); apply Exists.intro; refine ⟨fun _ w' _ hC => ?_, ?_⟩; ((skip); go_simp; try with_reducible rfl); (try go_simp); refine hK _ ?_; clear hK K)
                (refine wpC_read rfl (fun _ _ _ h => h) (fun K hK => ?_); apply Exists.intro; refine ⟨fun _ w' _ hC => ?_, ?_⟩; ((skip); go_simp; try with_reducible rfl); (try go_simp); refine hK _ ?_; clear hK K)
                (refine wpC_read rfl (fun _ _ _ h => h) (fun K hK => ?_); apply Exists.intro; refine ⟨fun _ w' _ hC => ?_, ?_⟩; ((have q := (HTX.out.same hC).c1); go_simp; try with_reducible rfl); (try go_simp); refine hK _ ?_; clear hK K)
                (refine wpC_read rfl (fun _ _ _ h => h) (fun K hK => ?_); apply Exists.intro; refine ⟨fun _ w' _ hC => ?_, ?_⟩; ((skip); go_simp; try with_reducible rfl); (try go_simp); refine hK _ ?_; clear hK K)
                (refine wpC_read rfl (fun _ _ _ h => h) (fun K hK => ?_); apply Exists.intro; refine ⟨fun _ w' _ hC => ?_, ?_⟩; ((skip); go_simp; try with_reducible rfl); (try go_simp); refine hK _ ?_; clear hK K)
                (refine wpC_read rfl (fun _ _ _ h => h) (fun K hK => ?_); apply Exists.intro; refine ⟨fun _ w' _ hC => ?_, ?_⟩; ((have q0 := hC.cellS HK.out.1 (fun h => h); have q1 := hC.cellS HK.out.2 (fun h => h)); go_simp; try with_reducible rfl); (try go_simp); refine hK _ ?_; clear hK K)
                (refine wpC_read rfl (fun _ _ _ h => h) (fun K hK => ?_); apply Exists.intro; refine ⟨fun _ w' _ hC => ?_, ?_⟩; ((obtain ⟨q0, q1⟩ := HBX.out w' (HX.out.trans hC)); go_simp; try with_reducible rfl); (try go_simp); refine hK _ ?_; clear hK K)
                refine wpC_call rfl (Value.bool true )  49  ( #[.agg #[.int .i64 rd, .slice xa rl.length xc], .agg #[.int .i64 D, .slice sa X.length sc]]) (fun w' => by go_simp) (fun _ w' _ hC => ?_) (fun K hK => ?_)
                · refine (refSame_any rd D rl X xa sa xc sc _ _ w' (HRI.out.same hC) (HIN.out.same (HX.out.trans hC)) HRL.out).mono ?_
                  rintro e w4 ⟨rfl, hc⟩
                  exact ⟨by rw [rowEq_comm, hxi], hC.trans hc⟩
                ((try go_simp); refine hK _ ?_; clear hK K)
                (refine wpC_read rfl (fun _ _ _ h => h) (fun K hK => ?_); apply Exists.intro; refine ⟨fun _ w' _ hC => ?_, ?_⟩; ((skip); go_simp; try with_reducible rfl); (try go_simp); refine hK _ ?_; clear hK K)
                (refine wpC_read rfl (fun _ _ _ h => h) (fun K hK => ?_); apply Exists.intro; refine ⟨fun _ w' _ hC => ?_, ?_⟩; ((skip); go_simp; try with_reducible rfl); (try go_simp); refine hK _ ?_; clear hK K)
                refine wpC_nil ?_
                intro w4 hC4
                have HX4 := Lib.hid (HX.out.trans hC4)
                have HT4 := Lib.hid (HTX.out.same hC4)
                clear hC4 c1
                have c1 := HT4.out.c1
                have HTL := Lib.hid (HT4.out.same ((Chg.refl (fun _ => False) w4).alloc (.cells #[.int .i64 j] 3)))
                have HBL : Hid (w.heap.size + 1 + 1 ≤ (w4.alloc (.cells #[.int .i64 j] 3)).heap.size) := Lib.hid HTL.out.lt
                have HOKI : Hid (∀ x ∈ [(j : Int)], intE.ok x) := Lib.hid (by intro x hx; rw [List.mem_singleton] at hx; subst hx; exact ⟨by omega, by omega⟩)
                have HOL : Hid (OO.length + 1 ≤ 1000000000000) := Lib.hid (by omega)
                have c2 := HT4.out.c2
                go_wp2_with (at_builtin; refine Elt.wpList_append2 intE rfl (.tmp 80) (.tmp 82) 22 22 rfl rfl (w.heap.size + 1 + 1) (.slice ua OO.length uc) OO [(j : Int)] (.slice (some ⟨w4.heap.size, 0, none⟩) 1 1) rfl rfl HTL.out.of HBL.out (intE.srcLit 1 HOKI.out) HOKI.out HOL.out ?_; intro u' w6 H1 H2 H3; obtain ⟨ua', ul', uc', hu'⟩ := H1.out.shape3; subst hu'; obtain ⟨⟨k1, k2⟩, hf1, hf2⟩ := HTL.out.addOf H1.out H3.out.1 (H3.out.2.imp id Or.inl); have HFF := Lib.hid hf1; have HCF := Lib.hid (((Chg.refl (fun k => w.heap.size + 1 ≤ k) w4).alloc (.cells #[.int .i64 j] 3)).trans hf2); clear hf1 hf2)
                have HTN : Hid (TabSt cellR rowR (w.heap.size + 1) (w6.setCell ⟨w.heap.size + 1, 2, none⟩ (.slice ua' ul' uc')) W (makeL (LL.take (k + 1))).1 (makeL (LL.take (k + 1))).2 (.slice (some ⟨g', o', none⟩) RR.length vc) (.slice ua' ul' uc')) := Lib.hid (by rw [HSN2.out, HPE.out, HAL.out]; exact HFF.out)
                have HCN := Lib.hid (HCX.out.trans (HX4.out.any.trans HCF.out))
                clear HFF HCF hxi
                go_roundw
                case rel => exact ⟨k + 1, _, _, by omega, by go_num, HOKN.out, HTN.out, HCN.out⟩
                case measure => simp [intOf]; omega
              · have hxi : rowEq (D, X) (rd, rl) = false := by simpa using hxi
                have HB2 : Hid (∀ (i : Nat) y, i < j + 1 → RR[i]? = some y → rowEq (D, X) y = false) := Lib.hid (fun i y hi hy => by
                  by_cases he : i = j
                  · subst he; rw [HRJ.out] at hy; obtain rfl := Option.some.inj hy; exact hxi
                  · exact HB.out i y (by omega) hy)
                go_upto_region 11 with (fail)
                refine wp_region_same (fun w' => Chg (fun _ => False) wr w') (by kernel_rfl) (by kernel_rfl) ?_ ?_
                · exact (Chg.refl _ _).drew
                (refine wpC_read rfl (fun _ _ _ h => h) (fun K hK => ?_); apply Exists.intro; refine ⟨fun _ w' _ hC => ?_, ?_⟩; ((skip); go_simp; try with_reducible rfl); (try go_simp); refine hK _ ?_; clear hK K)
                (refine wpC_read rfl (fun _ _ _ h => h) (fun K hK => ?_); apply Exists.intro; refine ⟨fun _ w' _ hC => ?_, ?_⟩; ((skip); go_simp; try with_reducible rfl); (try go_simp); refine hK _ ?_; clear hK K)
                (refine wpC_read rfl (fun _ _ _ h => h) (fun K hK => ?_); apply Exists.intro; refine ⟨fun _ w' _ hC => ?_, ?_⟩; ((have q := (HTX.out.same hC).c1); go_simp; try with_reducible rfl); (try go_simp); refine hK _ ?_; clear hK K)
                (refine wpC_read rfl (fun _ _ _ h => h) (fun K hK => ?_); apply Exists.intro; refine ⟨fun _ w' _ hC => ?_, ?_⟩; ((skip); go_simp; try with_reducible rfl); (try go_simp); refine hK _ ?_; clear hK K)
                (refine wpC_read rfl (fun _ _ _ h => h) (fun K hK => ?_); apply Exists.intro; refine ⟨fun _ w' _ hC => ?_, ?_⟩; ((skip); go_simp; try with_reducible rfl); (try go_simp); refine hK _ ?_; clear hK K)
                (refine wpC_read rfl (fun _ _ _ h => h) (fun K hK => ?_); apply Exists.intro; refine ⟨fun _ w' _ hC => ?_, ?_⟩; ((skip); go_simp; try with_reducible rfl); (try go_simp); refine hK _ ?_; clear hK K)
                (refine wpC_read rfl (fun _ _ _ h => h) (fun K hK => ?_); apply Exists.intro; refine ⟨fun _ w' _ hC => ?_, ?_⟩; ((skip); go_simp; try with_reducible rfl); (try go_simp); refine hK _ ?_; clear hK K)
                (refine wpC_read rfl (fun _ _ _ h => h) (fun K hK => ?_); apply Exists.intro; refine ⟨fun _ w' _ hC => ?_, ?_⟩; ((have q := (HTX.out.same hC).c1); go_simp; try with_reducible rfl); (try go_simp); refine hK _ ?_; clear hK K)
                (refine wpC_read rfl (fun _ _ _ h => h) (fun K hK => ?_); apply Exists.intro; refine ⟨fun _ w' _ hC => ?_, ?_⟩; ((skip); go_simp; try with_reducible rfl); (try go_simp); refine hK _ ?_; clear hK K)
                (refine wpC_read rfl (fun _ _ _ h => h) (fun K hK => ?_); apply Exists.intro; refine ⟨fun _ w' _ hC => ?_, ?_⟩; ((skip); go_simp; try with_reducible rfl); (try go_simp); refine hK _ ?_; clear hK K)
                (refine wpC_read rfl (fun _ _ _ h => h) (fun K hK => ?_); apply Exists.intro; refine ⟨fun _ w' _ hC => ?_, ?_⟩; ((have q0 := hC.cellS HK.out.1 (fun h => h); have q1 := hC.cellS HK.out.2 (fun h => h)); go_simp; try with_reducible rfl); (try go_simp); refine hK _ ?_; clear hK K)
                (refine wpC_read rfl (fun _ _ _ h => h) (fun K hK => ?_); apply Exists.intro; refine ⟨fun _ w' _ hC => ?_, ?_⟩; ((obtain ⟨q0, q1⟩ := HBX.out w' (HX.out.trans hC)); go_simp; try with_reducible rfl); (try go_simp); refine hK _ ?_; clear hK K)
                refine wpC_call rfl (Value.bool false )  49  ( #[.agg #[.int .i64 rd, .slice xa rl.length xc], .agg #[.int .i64 D, .slice sa X.length sc]]) (fun w' => by go_simp) (fun _ w' _ hC => ?_) (fun K hK => ?_)
                · refine (refSame_any rd D rl X xa sa xc sc _ _ w' (HRI.out.same hC) (HIN.out.same (HX.out.trans hC)) HRL.out).mono ?_
                  rintro e w4 ⟨rfl, hc⟩
                  exact ⟨by rw [rowEq_comm, hxi], hC.trans hc⟩
                ((try go_simp); refine hK _ ?_; clear hK K)
                (refine wpC_read rfl (fun _ _ _ h => h) (fun K hK => ?_); apply Exists.intro; refine ⟨fun _ w' _ hC => ?_, ?_⟩; ((skip); go_simp; try with_reducible rfl); (try go_simp); refine hK _ ?_; clear hK K)
                (refine wpC_read rfl (fun _ _ _ h => h) (fun K hK => ?_); apply Exists.intro; refine ⟨fun _ w' _ hC => ?_, ?_⟩; ((skip); go_simp; try with_reducible rfl); (try go_simp); refine hK _ ?_; clear hK K)
                refine wpC_nil ?_
                intro w4 hC4
                have HX4 := Lib.hid (HX.out.trans hC4)
                have HT4 := Lib.hid (HTX.out.same hC4)
                clear hC4 c1
                have c1 := HT4.out.c1
                clear hxi
                go_wp2
                go_roundw
                case rel => exact ⟨j + 1, by omega, by go_num, HB2.out, HX4.out⟩
                case measure => simp [intOf]; omega
            · obtain rfl : j = RR.length := by omega
              have b55 : decide ((RR.length : Int) < (RR.length : Int)) = false := by simp
              have HAL : Hid (addL (RR, OO) (D, X) = (RR ++ [(D, X)], OO ++ [(RR.length : Int)])) := Lib.hid (by
                have hh : ¬ hasRow (D, X) (RR, OO).1 = true := fun e => by
                  obtain ⟨i, hi, he⟩ := List.getElem_of_mem (hasRow_iff.1 e)
                  have h1 := HB.out i _ hi (List.getElem?_eq_getElem hi)
                  have he' : RR[i] = (D, X) := he
                  rw [he'] at h1
                  simp [rowEq] at h1
                unfold addL
                rw [if_neg hh])
              go_upto_region 11 with (fail)
              refine wp_region_same (fun w' => Chg (fun _ => False) wr w') (by kernel_rfl) (by kernel_rfl) ?_ ?_
              · exact (Chg.refl _ _).drew
              (refine wpC_read rfl (fun _ _ _ h => h) (fun K hK => ?_); apply Exists.intro; refine ⟨fun _ w' _ hC => ?_, ?_⟩; ((skip); go_simp; try with_reducible rfl); (try go_simp); refine hK _ ?_; clear hK K)
              (refine wpC_read rfl (fun _ _ _ h => h) (fun K hK => ?_); apply Exists.intro; refine ⟨fun _ w' _ hC => ?_, ?_⟩; ((skip); go_simp; try with_reducible rfl); (try go_simp); refine hK _ ?_; clear hK K)
              (refine wpC_read rfl (fun _ _ _ h => h) (fun K hK => ?_); apply Exists.intro; refine ⟨fun _ w' _ hC => ?_, ?_⟩; ((have q := (HTX.out.same hC).c1); go_simp; try with_reducible rfl); (try go_simp); refine hK _ ?_; clear hK K)
              (refine wpC_read rfl (fun _ _ _ h => h) (fun K hK => ?_); apply Exists.intro; refine ⟨fun _ w' _ hC => ?_, ?_⟩; ((skip); go_simp; try with_reducible rfl); (try go_simp); refine hK _ ?_; clear hK K)
              (refine wpC_read rfl (fun _ _ _ h => h) (fun K hK => ?_); apply Exists.intro; refine ⟨fun _ w' _ hC => ?_, ?_⟩; ((skip); go_simp; try with_reducible rfl); (try go_simp); refine hK _ ?_; clear hK K)
              (refine wpC_read rfl (fun _ _ _ h => h) (fun K hK => ?_); apply Exists.intro; refine ⟨fun _ w' _ hC => ?_, ?_⟩; ((skip); go_simp; try with_reducible rfl); (try go_simp); refine hK _ ?_; clear hK K)
              iterate 8 (refine wpC_skip rfl (fun _ _ _ h => h) (fun K hK => ?_); (try go_simp); refine hK _ ?_; clear hK K)
              (refine wpC_read rfl (fun _ _ _ h => h) (fun K hK => ?_); apply Exists.intro; refine ⟨fun _ w' _ hC => ?_, ?_⟩; ((skip); go_simp; try with_reducible rfl); (try go_simp); refine hK _ ?_; clear hK K)
              refine wpC_nil ?_
              intro w4 hC4
              have HX4 := Lib.hid (HX.out.trans hC4)
              have HT4 := Lib.hid (HTX.out.same hC4)
              clear hC4 c1
              have c1 := HT4.out.c1
              obtain ⟨x0, x1⟩ := HBX.out w4 HX4.out
              have HTE := Lib.hid (HT4.out.same ((Chg.refl (fun _ => False) w4).alloc (.cells #[.int .i64 D, .slice sa X.length sc] 33)))
              have HXE := Lib.hid (HXI.out.same (HX4.out.trans ((Chg.refl (fun _ => False) w4).alloc (.cells #[.int .i64 D, .slice sa X.length sc] 33))))
              obtain ⟨XX, hXX, hXl, -⟩ := HTE.out.rows
              have HXX := Lib.hid hXX
              have HXL := Lib.hid hXl
              have HOKR : Hid (∀ y ∈ [(D, sa, X.length, sc)], rowR.ok y) := Lib.hid (by intro y hy; rw [List.mem_singleton] at hy; subst hy; exact HXI.out.2.1)
              have HBR : Hid (w.heap.size + 1 + 1 ≤ (w4.alloc (.cells #[.int .i64 D, .slice sa X.length sc] 33)).heap.size) := Lib.hid HTE.out.lt
              have HLR : Hid (XX.length + 1 ≤ 1000000000000) := Lib.hid (by omega)
              clear hXX hXl
              go_upto_region 15 with (at_builtin; refine Elt.wpList_append2 rowR rfl (.tmp 74) (.tmp 76) 48 48 rfl rfl (w.heap.size + 1 + 1) (.slice va RR.length vc) XX [(D, sa, X.length, sc)] (.slice (some ⟨w4.heap.size, 0, none⟩) 1 1) rfl rfl HXX.out HBR.out (rowR.srcLit 1 HOKR.out) HOKR.out HLR.out ?_; intro v' w5 K1 K2 K3; obtain ⟨va', vl', vc', hv'⟩ := K1.out.shape3; subst hv'; obtain ⟨⟨k1, k2⟩, hf1, hf2⟩ := HTE.out.addRow HXE.out HXA.out (fun X' hX' _ => (by rw [rowOwnR_unique hX' HXX.out]; exact K1.out)) K3.out.1 (K3.out.2.imp id Or.inl); have HFT := Lib.hid hf1; have HFC := Lib.hid (((Chg.refl (fun k => w.heap.size + 1 ≤ k) w4).alloc (.cells #[.int .i64 D, .slice sa X.length sc] 33)).trans hf2); clear hf1 hf2)
              clear k1 k2 x0 x1 c1
              obtain ⟨wf, hwf⟩ : ∃ wf, wf = w5.setCell ⟨w.heap.size + 1, 1, none⟩ (.slice va' vl' vc') := ⟨_, rfl⟩
              rw [← hwf] at HFT HFC ⊢
              clear hwf
              have HTL := Lib.hid (HFT.out.same ((Chg.refl (fun _ => False) wf).alloc (.cells #[.int .i64 RR.length] 3)))
              have HBL : Hid (w.heap.size + 1 + 1 ≤ (wf.alloc (.cells #[.int .i64 RR.length] 3)).heap.size) := Lib.hid HTL.out.lt
              have HOKI : Hid (∀ x ∈ [(RR.length : Int)], intE.ok x) := Lib.hid (by intro x hx; rw [List.mem_singleton] at hx; subst hx; exact ⟨by omega, by omega⟩)
              have HOL : Hid (OO.length + 1 ≤ 1000000000000) := Lib.hid (by omega)
              have c2 := HFT.out.c2
              go_wp2_with (at_builtin; refine Elt.wpList_append2 intE rfl (.tmp 80) (.tmp 82) 22 22 rfl rfl (w.heap.size + 1 + 1) (.slice ua OO.length uc) OO [(RR.length : Int)] (.slice (some ⟨wf.heap.size, 0, none⟩) 1 1) rfl rfl HTL.out.of HBL.out (intE.srcLit 1 HOKI.out) HOKI.out HOL.out ?_; intro u' w6 H1 H2 H3; obtain ⟨ua', ul', uc', hu'⟩ := H1.out.shape3; subst hu'; obtain ⟨⟨k1, k2⟩, hf1, hf2⟩ := HTL.out.addOf H1.out H3.out.1 (H3.out.2.imp id Or.inl); have HFF := Lib.hid hf1; have HCF := Lib.hid (((Chg.refl (fun k => w.heap.size + 1 ≤ k) wf).alloc (.cells #[.int .i64 RR.length] 3)).trans hf2); clear hf1 hf2)
              have HTN : Hid (TabSt cellR rowR (w.heap.size + 1) (w6.setCell ⟨w.heap.size + 1, 2, none⟩ (.slice ua' ul' uc')) W (makeL (LL.take (k + 1))).1 (makeL (LL.take (k + 1))).2 (.slice va' vl' vc') (.slice ua' ul' uc')) := Lib.hid (by rw [HSN2.out, HPE.out, HAL.out]; exact HFF.out)
              have HCN := Lib.hid (HCX.out.trans (HX4.out.any.trans (HFC.out.trans HCF.out)))
              clear HFF HCF
              go_roundw
              case rel => exact ⟨k + 1, _, _, by omega, by go_num, HOKN.out, HTN.out, HCN.out⟩
              case measure => simp [intOf]; omega
        · have q1 : ((l.length : Int) != W) = true := by simpa using hlw
          have HMB := Lib.hid (HBADP.out (by unfold listOk; rw [hnv]; simpa using hlw))
          clear hlw
          obtain ⟨⟨r0, r1, r2⟩, hz⟩ := HR0.out wb HCX.out
          have z0 := hz 0
          have z1 := hz 1
          have z2 := hz 2
          clear hz
          go_wp2
          obtain ⟨f0, f1, f2, f3⟩ := store3 (.int .i64 0) (.slice none 0 0) (.slice none 0 0) r0 r1 r2
          have h4 := ((HCB.out.any (S := fun k => w.heap.size ≤ k)).trans (f3.mono (fun k _ e => by omega))).fresh
          clear f3
          generalize ((wb.setCell ⟨w.heap.size, 0, none⟩ (.int .i64 0)).setCell ⟨w.heap.size, 1, none⟩ (.slice none 0 0)).setCell ⟨w.heap.size, 2, none⟩ (.slice none 0 0) = WW at *
          exact bodyPost_ret (v := .tuple #[.agg #[.int .i64 0, .slice none 0 0, .slice none 0 0], .int .i64 1]) (by simp [results, Try.results19, go_sem, f0, f1, f2]) rfl (.inl ⟨HMB.out, rfl, h4⟩)
    · obtain rfl : k = LL.length := by omega
      have HOKF : Hid (makeOk W LL = true) := Lib.hid (by have := HOK.out; rwa [List.take_length] at this)
      have HTF : Hid (TabSt cellR rowR (w.heap.size + 1) wr W (makeL LL).1 (makeL LL).2 v u) := Lib.hid (by have := HT.out; rwa [List.take_length] at this)
      obtain ⟨va, vn, vc, rfl⟩ : ∃ a n c, v = .slice a n c := by obtain ⟨X, h1, _⟩ := HTF.out.rows; exact h1.shape3
      obtain ⟨ua, un, uc, rfl⟩ := HTF.out.of.shape3
      obtain ⟨-, -, rfl, rfl, hle1, hle2⟩ := HTF.out.final (Chg.refl _ _)
      obtain ⟨⟨r0, r1, r2⟩, hz⟩ := HR0.out wr HC.out
      have z0 := hz 0
      have z1 := hz 1
      have z2 := hz 2
      have c0 := HTF.out.c0
      have c1 := HTF.out.c1
      have c2 := HTF.out.c2
      have hbl : w.heap.size + 1 < wr.heap.size := HTF.out.lt
      clear hz HT HOK
      go_wp2
      obtain ⟨f0, f1, f2, f3⟩ := store3 (.int .i64 W) (.slice va (makeL LL).1.length vc) (.slice ua (makeL LL).2.length uc) r0 r1 r2
      obtain ⟨h4, h5, -⟩ := HTF.out.final (f3.mono (fun k _ e => by omega))
      have h6 := (HCW.out.any (S := fun k => w.heap.size ≤ k)).trans (f3.mono (fun k _ e => by omega))
      have h7 : RowsIn cellR rowR (((wr.setCell ⟨w.heap.size, 0, none⟩ (.int .i64 W)).setCell ⟨w.heap.size, 1, none⟩ (.slice va (makeL LL).1.length vc)).setCell ⟨w.heap.size, 2, none⟩ (.slice ua (makeL LL).2.length uc)) w.heap.size (va, (makeL LL).1.length, vc) (makeL LL).1 := by
        obtain ⟨X, q1, q2, q3⟩ := h4.lower (B' := w.heap.size) (by omega)
        obtain ⟨q4, q5, q6⟩ := q1
        exact ⟨X, ⟨q4, hle1, q6⟩, q2, q3⟩
      clear f3 h4
      generalize ((wr.setCell ⟨w.heap.size, 0, none⟩ (.int .i64 W)).setCell ⟨w.heap.size, 1, none⟩ (.slice va (makeL LL).1.length vc)).setCell ⟨w.heap.size, 2, none⟩ (.slice ua (makeL LL).2.length uc) = WW at *
      exact bodyPost_ret (v := .tuple #[.agg #[.int .i64 W, .slice va (makeL LL).1.length vc, .slice ua (makeL LL).2.length uc], .int .i64 0]) (by simp [results, Try.results19, go_sem, f0, f1, f2]) rfl (.inr ⟨HOKF.out, va, ua, vc, uc, rfl, h7, h5.lower (by omega), hle2, h6.fresh⟩)
end Go.Proofs.Ytkfakkonlnjckaa
