/- Tokens' texts are the input: what the walk of harbingerlaw11.LexersWhole needs: the state behind a text, a copy into a row, tokens in memory. -/
import Derived.Test.YtfhmblbomkhcpaaDoorBehind
import Derived.Laws.IdiomCopy
namespace Go.Proofs.YtfhmblbomkhcpaaDoor
open Go.RowKit

theorem wpList_copyRun {P : Program} {ops : Array Oper} {rest : List Oper} {o : Oper} {a : Act} {w : World} {Q : Exit → Act → World → Prop} (hgd : o.guard = none) (d s : Operand) (dT sT : TypeId)
    (ho : o.op = .call { callee := .builtin .copy, args := #[d, s], argTypes := #[dT, sT] }) (v u : Value) (hd : a.eval d = v) (hs : a.eval s = u) {v' : Value} {w' : World}
    (hr : (Builtin.copy_ #[dT, sT] o.type #[v, u]).run P w = .ok v' w') (h : wpList P ops Q rest (a.put o.dst v') w') : wpList P ops Q (o :: rest) a w := by
  refine wpList_plain hgd fun K hK => ?_
  unfold Oper.wp
  simp [execOp, ho, resolve, invoke, builtin, hd, hs, hr, Result.andThen]
  exact hK _ _ h
section
variable {α : Type}
/-- copy into a row of one's own (elements of one cell). -/
theorem Elt.wpList_copy (E : Elt α) (h1 : E.sz = 1) {ops : Array Oper} {rest : List Oper} {o : Oper} {a : Act} {w : World} {Q : Exit → Act → World → Prop} (hgd : o.guard = none) (d s : Operand) (dT sT : TypeId)
    (ho : o.op = .call { callee := .builtin .copy, args := #[d, s], argTypes := #[dT, sT] }) (hdT : dT = E.sl)
    (g n nc B m mc : Nat) (sp : Option Addr) (hd : a.eval d = .slice (some ⟨g, 0, none⟩) n nc) (hs : a.eval s = .slice sp m mc) {C D : List α} (hC : E.Row w g C) (hn : n = C.length) (hD : E.In w B (sp, m, mc) D)
    (h : ∀ w' C' v, Hid (E.Row w' g C') → C'.length = C.length → Hid (Chg (fun k => k = g) w w') → wpList Tryd.prog ops Q rest (a.put o.dst v) w') : wpList Tryd.prog ops Q (o :: rest) a w := by
  subst hdT hn
  obtain ⟨y, hy, hz, hy1, hy2⟩ := info_parts E.info
  have hsz : (Tryd.prog.info? E.e).map (·.size) = some 1 := by rw [hy, Option.map_some, hy1, h1]
  obtain ⟨rfl, hm, gs, os, hat, hal⟩ := hD
  simp only at hm hat hal
  by_cases h0 : Nat.min D.length C.length = 0
  · refine wpList_copyRun hgd d s E.sl sT ho _ _ hd hs (run_copy_none (P := Tryd.prog) w E.sl sT o.type E.e _ _ _ _ _ _ E.und hsz h0) ?_
    exact h w C _ (Lib.hid hC) rfl (Lib.hid (Chg.refl _ _))
  · have hD0 : 0 < D.length := by
      rcases Nat.eq_zero_or_pos D.length with e | e
      · rw [e] at h0; simp at h0
      · exact e
    obtain ⟨rfl, hBg⟩ := hal hD0
    have hl : (D.take C.length).length ≤ C.length := by simp; omega
    have hlen : (E.encs (D.take C.length)).length = Nat.min D.length C.length := by
      rw [E.encs_length, h1, List.length_take]
      show min C.length D.length * 1 = min D.length C.length
      omega
    have hput := Elt.Row.put (E := E) (X := []) (Y := D.take C.length) hC (List.nil_prefix) (by simpa using hl) (fun x hx => hat.ok x (List.mem_of_mem_take hx))
    obtain ⟨C', hR, hCl, -⟩ := hput
    have hrun := run_copy_cells (P := Tryd.prog) w E.sl sT o.type E.e g 0 C.length nc ⟨gs, os, none⟩ D.length mc (E.encs (D.take C.length)) E.und hsz hlen
      (fun j u hj => by
        rw [Addr.add_lit]
        refine hat.c j u ?_
        have hX : D = D.take C.length ++ D.drop C.length := (List.take_append_drop _ _).symm
        rw [hX, E.encs_append, List.getElem?_append_left (List.getElem?_eq_some_iff.1 hj).1]
        exact hj)
      (fun j hj => by
        rw [Nat.zero_add]
        have hj' : j < (E.encs C).length := by
          rw [E.encs_length] at hj ⊢
          exact Nat.lt_of_lt_of_le hj (Nat.mul_le_mul_right _ hl)
        rw [hC.c j _ (List.getElem?_eq_getElem hj')]
        rfl)
      (fun j _ => hC.z _)
      (fun u hu => by
        unfold Elt.encs at hu
        obtain ⟨x, -, hx⟩ := List.mem_flatMap.1 hu
        exact E.one x u hx)
    refine wpList_copyRun hgd d s E.sl sT ho _ _ hd hs hrun ?_
    simp only [List.length_nil, Nat.zero_mul] at hR
    exact h _ C' _ (Lib.hid hR) hCl (Lib.hid (setCellsChg _ _ _ _))
theorem Elt.Row.in' {E : Elt α} {w : World} {g : Nat} {C : List α} (h : E.Row w g C) {n c : Nat} (hn : n = C.length) (hc : n ≤ c) : E.In w 0 (some ⟨g, 0, none⟩, n, c) C :=
  ⟨hn, hc, g, 0, h.at' (List.prefix_refl _), fun _ => ⟨rfl, Nat.zero_le _⟩⟩
end
/-- One of some tokens. -/
theorem Elt.In.getT {w : World} {B : Nat} {a : Option Addr} {n c : Nat} {L : List TokD} (h : tokE.In w B (a, n, c) L) {k : Nat} {x : TokD} (hx : L[k]? = some x) :
    ∃ (g o : Nat), a = some ⟨g, o, none⟩ ∧ w.cell? ⟨g, o + k * 3, none⟩ = some (.int .i64 x.1) ∧ w.cell? ⟨g, o + k * 3 + 1, none⟩ = some (.string x.2.1) ∧ w.cell? ⟨g, o + k * 3 + 2, none⟩ = some (.int .i64 x.2.2) := by
  obtain ⟨h1, h2, g, o, h3, h4⟩ := h
  have hk := (List.getElem?_eq_some_iff.1 hx).1
  have c0 := h3.get hx (i := 0) (u := .int .i64 x.1) rfl
  have c1 := h3.get hx (i := 1) (u := .string x.2.1) rfl
  have c2 := h3.get hx (i := 2) (u := .int .i64 x.2.2) rfl
  rw [show tokE.sz = 3 from rfl] at c0 c1 c2
  rw [Nat.add_zero] at c0
  rw [← Nat.add_assoc] at c1 c2
  exact ⟨g, o, (h4 (by omega)).1, c0, c1, c2⟩

theorem filter_get {p : TokD → Bool} {L : List TokD} {i : Nat} {x : TokD} (hx : L[i]? = some x) : ((L.take (i + 1)).filter p).length = ((L.take i).filter p).length + (if p x = true then 1 else 0) ∧ (p x = true → (L.filter p)[((L.take i).filter p).length]? = some x) := by
  have hi := (List.getElem?_eq_some_iff.1 hx).1
  refine ⟨?_, fun hp => ?_⟩
  · rw [List.take_add_one, hx, List.filter_append, List.length_append]
    congr 1
    simp only [Option.toList_some, List.filter_cons, List.filter_nil]
    split <;> rfl
  · have e : L = L.take i ++ x :: L.drop (i + 1) := by
      rw [← (List.getElem?_eq_some_iff.1 hx).2, ← List.drop_eq_getElem_cons hi, List.take_append_drop]
    have h2 : L.filter p = (L.take i).filter p ++ x :: (L.drop (i + 1)).filter p := by
      conv => lhs; rw [e]
      rw [List.filter_append, List.filter_cons_of_pos hp]
    rw [h2, List.getElem?_append_right (Nat.le_refl _), Nat.sub_self]
    rfl
theorem newOk_100 {t : TabD} {d : List Bool} (h : mayT t = true) (hd : d.length = 100) (he : ∀ (j : Nat) e, j < t.e.length → t.e[j]? = some e → e ≤ 99) : newOk t d = true :=
  newOk_good h (fun e hm => by
    obtain ⟨j, hj⟩ := List.getElem?_of_mem hm
    have := he j e (List.getElem?_eq_some_iff.1 hj).1 hj
    omega)
theorem extract_app {s : ByteArray} {a b : Nat} (h : a ≤ b) : s.extract 0 a ++ s.extract a b = s.extract 0 b := by
  apply ByteArray.ext
  apply Array.ext'
  rw [ByteArray.data_append, Array.toList_append, Lib.extract_data, Lib.extract_data, Lib.extract_data, List.drop_zero]
  have e : b - 0 = a + (b - a) := by omega
  rw [e, Nat.sub_zero, List.take_add]
theorem extract_all (s : ByteArray) : s.extract 0 s.size = s := by
  apply ByteArray.ext
  apply Array.ext'
  rw [Lib.extract_data, List.drop_zero, Nat.sub_zero]
  exact List.take_of_length_le (by rw [Array.length_toList]; exact Nat.le_refl _)

set_option maxRecDepth 100000 in
set_option maxHeartbeats 4000000 in
theorem state_any (t : TabD) (rs cs ns es : Sl) (B : Nat) (u : ByteArray) (w : World) (h : TabIn w B rs cs ns es t) (hf : Fair t) (hm : MayS t) (hT : Tabs w) (hs : u.size ≤ 1000000000000) :
    Calls Tryd.prog 22 #[tabV rs cs ns es, .string u] w fun e w' => e = .returned (.int .i64 (stateL t u)) ∧ (-1 ≤ stateL t u ∧ stateL t u < t.n.length) ∧ Chg (fun _ => False) w w' := by
  have HT := Lib.hid hT
  have HTB := Lib.hid h
  have HF := Lib.hid hf
  have HM := Lib.hid hm
  have hnl := hm.nl
  have hfn := hf.n
  obtain ⟨ra, rn, rc⟩ := rs
  obtain ⟨ca, cn, cc⟩ := cs
  obtain ⟨na, nn, nc⟩ := ns
  obtain ⟨ea, en, ec⟩ := es
  clear h hT hf hm
  obtain ⟨wa, hwa⟩ : ∃ x, x = w.alloc (.cells #[.slice ra rn rc, .slice ca cn cc, .slice na nn nc, .slice ea en ec] 26) := ⟨_, rfl⟩
  have HT0 : Hid (∀ wx, Chg (fun _ => False) wa wx → (wx.cell? ⟨w.heap.size, 0, none⟩ = some (.slice ra rn rc) ∧ wx.cell? ⟨w.heap.size, 1, none⟩ = some (.slice ca cn cc) ∧ wx.cell? ⟨w.heap.size, 2, none⟩ = some (.slice na nn nc) ∧ wx.cell? ⟨w.heap.size, 3, none⟩ = some (.slice ea en ec))) := Lib.hid (fun wx hx => by
    subst hwa
    exact (tabBox w (ra, rn, rc) (ca, cn, cc) (na, nn, nc) (ea, en, ec) 26).chg hx (fun h => h))
  have HC0 : Hid (Chg (fun _ => False) w wa) := Lib.hid (by rw [hwa]; exact (Chg.refl _ _).alloc _)
  have HWA := Lib.hid hwa
  clear hwa
  show Calls Tryd.prog 22 #[.agg #[.slice ra rn rc, .slice ca cn cc, .slice na nn nc, .slice ea en ec], .string u] w _
  go_enter Tryd.func22, Tryd.ntmps22
  go_upto_region 1 with (fail)
  rw [← HWA.out]
  go_wp2
  go_loopw [5, 6] (fun sv q wr => ∃ (i : Nat) (st : Int), i ≤ u.size ∧ q = .int .i64 i ∧ sv = .int .i64 st ∧ (-1 ≤ st ∧ st < t.n.length) ∧ stateL t u = stateG t u i st ∧ Chg (fun _ => False) wa wr) (fun _ q _ => u.size - (intOf q).toNat)
  case atStart => exact ⟨0, 0, by omega, rfl, rfl, ⟨by omega, by omega⟩, rfl, Chg.refl _ _⟩
  case round =>
    obtain ⟨i, st, hi, rfl, rfl, ⟨hst0, hst1⟩, hr, hc⟩ := hrel
    have HR := Lib.hid hr
    have HC := Lib.hid hc
    clear hr hc
    by_cases his : i < u.size
    · have b1 : decide ((i : Int) < (u.size : Int)) = true := by simp; omega
      by_cases hs0 : st < 0
      · have b2 : decide (0 ≤ st) = false := by simp; omega
        have HE : Hid (stateL t u = st) := Lib.hid (by rw [HR.out, stateG_neg hs0])
        go_wp2
        go_ret
        exact ⟨by rw [HE.out]; rfl, by rw [HE.out]; exact ⟨hst0, hst1⟩, HC0.out.trans HC.out⟩
      · have b2 : decide (0 ≤ st) = true := by simp; omega
        have HD := Lib.hid (runeDecode_in u i wr (HT.out.same (HC0.out.trans HC.out)) his)
        cases hd : decU u i with
        | none =>
          have HE : Hid (stateL t u = -1) := Lib.hid (by rw [HR.out, stateG_bad his (by omega) hd])
          rw [decV_none hd] at HD
          clear hd
          go_wp2_with fail
          refine HD.out.mono ?_
          rintro e w1 ⟨rfl, hc⟩
          have HC1 := Lib.hid (HC.out.trans hc)
          clear hc HD
          go_wp2
          go_ret
          exact ⟨by rw [HE.out]; rfl, by rw [HE.out]; omega, HC0.out.trans HC1.out⟩
        | some p =>
          obtain ⟨c, n⟩ := p
          obtain ⟨-, hn1, hn4, hin, hc4, -, -⟩ := decU_some his hd
          have HRN := Lib.hid (HR.out.trans (stateG_step (t := t) (st := st) his (by omega) hd))
          rw [decV_some hd] at HD
          clear hd
          obtain ⟨y, hy⟩ : ∃ y, stepT t st c = y := ⟨_, rfl⟩
          have hyb := stepT_lt HM.out st c
          rw [hy] at HRN hyb
          have HY := Lib.hid hy
          clear hy
          go_wp2_with fail
          refine HD.out.mono ?_
          rintro e w1 ⟨rfl, hc⟩
          have HC1 := Lib.hid (HC.out.trans hc)
          clear hc HD
          obtain ⟨q0, q1, q2, q3⟩ := HT0.out w1 HC1.out
          go_wp2_with fail
          refine (step_any t (ra, rn, rc) (ca, cn, cc) (na, nn, nc) (ea, en, ec) B st c w1 (HTB.out.same (HC0.out.trans HC1.out)) HF.out ⟨by omega, by omega⟩).mono ?_
          rintro e w2 ⟨rfl, hc⟩
          rw [HY.out]
          have HC2 := Lib.hid (HC1.out.trans hc)
          clear hc q0 q1 q2 q3
          go_wp2
          go_roundw
          case rel => exact ⟨i + n, y, by omega, by go_num, rfl, hyb, HRN.out, HC2.out⟩
          case measure => simp [intOf]; omega
    · obtain rfl : i = u.size := by omega
      have b1 : decide ((u.size : Int) < (u.size : Int)) = false := by simp
      have HE : Hid (stateL t u = st) := Lib.hid (by rw [HR.out, stateG_end (Nat.le_refl _)])
      go_wp2
      go_ret
      exact ⟨by rw [HE.out]; rfl, by rw [HE.out]; exact ⟨hst0, hst1⟩, HC0.out.trans HC.out⟩
end Go.Proofs.YtfhmblbomkhcpaaDoor
