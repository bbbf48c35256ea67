/- A map that numbers ints as they come: which are there, which number each has, how many. The program's found: groups from 0's on, as they are found, each by one of its states. Lists of ints, of ranges, of lists compared; lists clipped; the program's two questions of a column. A region that draws: two lists appended to, each by a slice that is built in the region, the second one's at any time. Two lists of one's own appended to in one statement. Columns, ranges, classes of the least table as they are made. Rows and ends of the least table as they are made. The program's Least: what lies in memory while the table is made. The program's Least: a column is filled. The program's groups: states that no text tells apart. -/
import Derived.Test.YtodohgckncnipaaGA6
import Derived.Test.YtodohgckncnipaaGA4
import Derived.Test.YtodohgckncnipaaGA5
/- A map that numbers ints as they come: which are there, which number each has, how many. -/
namespace Go.Proofs.Ytodohgckncnipaa
open Go.RowKit Go.Maps

def isI (m : Int) (x : Int) : Bool := decide (x = m)
theorem lawI : Maps.Keyed Try.prog 3 := Maps.int_keyed Try.underlying3
/-- Block b is a map that tells each number of L its place there. -/
def MapN (w : World) (b : Nat) (L : List Int) : Prop :=
  ∃ D : DataW Unit, w.ownsMap Try.prog 3 (plainElem Try.prog 3) b L.length D ∧ Maps.size D = L.length ∧
    ∀ x, Maps.has D (.int .i64 x) = L.any (isI x) ∧ D.atKey (.int .i64 x) (.lit (.int .i64 0)) = .lit (.int .i64 (max 0 (idxV (isI x) L)))
theorem MapN.chg {S : Nat → Prop} {w w' : World} {b : Nat} {L : List Int} (h : MapN w b L) (hg : Chg S w w') (hs : ¬ S b) : MapN w' b L := by
  obtain ⟨D, h1, h2⟩ := h
  exact ⟨D, ownsMap_chg h1 hg hs, h2⟩
theorem MapN.lt {w : World} {b : Nat} {L : List Int} (h : MapN w b L) : b < w.heap.size := by
  obtain ⟨D, h1, h2⟩ := h
  exact h1.lt
theorem MapN.made (w : World) : MapN (w.alloc (.map #[] 0)) w.heap.size [] :=
  ⟨.map [], World.ownsMap_made _ _ _ _, rfl, fun _ => ⟨rfl, rfl⟩⟩
set_option maxRecDepth 100000 in
theorem MapN.look {w : World} {b : Nat} {L : List Int} (h : MapN w b L) {x : Int} (hx : W64 x) :
    (Instr.lookup 61 (.map (some b)) (.int .i64 x) true).run Try.prog w = .ok (.tuple #[.int .i64 (max 0 (idxV (isI x) L)), .bool (L.any (isI x))]) w := by
  obtain ⟨D, h1, h2, h3⟩ := h
  obtain ⟨v, ps, hrun, hv⟩ := h1.look_ok lawI Try.underlying61 (zeroInt w) (plainElem_int Try.underlying3 (by decide)) (keyOf_int_mk Try.underlying3 hx.wf)
  obtain ⟨c, rfl, hc, _⟩ := plainElem_int_inv Try.underlying3 hv
  simp only [Prod.mk.injEq] at hc
  obtain ⟨e1, e2⟩ := h3 x
  rw [e2] at hc
  have : c = max 0 (idxV (isI x) L) := by
    have := hc.1
    injection this with this
    injection this with _ this
    exact this.symm
  rw [e1, this] at hrun
  exact hrun
set_option maxRecDepth 100000 in
theorem MapN.look1 {w : World} {b : Nat} {L : List Int} (h : MapN w b L) {x : Int} (hx : W64 x) :
    (Instr.lookup 61 (.map (some b)) (.int .i64 x) false).run Try.prog w = .ok (.int .i64 (max 0 (idxV (isI x) L))) w := by
  obtain ⟨D, h1, h2, h3⟩ := h
  obtain ⟨v, ps, hrun, hv⟩ := h1.lookup lawI Try.underlying61 (zeroInt w) (plainElem_int Try.underlying3 (by decide)) (keyOf_int_mk Try.underlying3 hx.wf)
  obtain ⟨c, rfl, hc, _⟩ := plainElem_int_inv Try.underlying3 hv
  simp only [Prod.mk.injEq] at hc
  obtain ⟨e1, e2⟩ := h3 x
  rw [e2] at hc
  have : c = max 0 (idxV (isI x) L) := by
    have := hc.1
    injection this with this
    injection this with _ this
    exact this.symm
  rw [this] at hrun
  exact hrun
theorem idxI_app {L : List Int} {m x : Int} (hm : L.any (isI m) = false) : max 0 (idxV (isI x) (L ++ [m])) = if x = m then (L.length : Int) else max 0 (idxV (isI x) L) := by
  rw [List.any_eq_false] at hm
  by_cases e : x = m
  · subst e
    rw [if_pos rfl, idxV_found (p := isI x) (L := L ++ [x]) (k := L.length) (x := x) (by simp) (by simp [isI]) (fun j y hj hy => by
      rw [List.getElem?_append_left hj] at hy
      simpa using hm y (List.mem_of_getElem? hy))]
    omega
  · rw [if_neg e]
    rcases idx_cases (isI x) L with ⟨k, y, h1, h2, h3, -⟩ | ⟨h3, h4, -⟩
    · have hk := (List.getElem?_eq_some_iff.1 h1).1
      have hfi : L.findIdx (isI x) = k := by unfold idxV at h3; split at h3 <;> omega
      rw [h3, idxV_found (p := isI x) (L := L ++ [m]) (k := k) (x := y) (by rw [List.getElem?_append_left hk]; exact h1) h2 (fun j z hj hz => by
        rw [List.getElem?_append_left (by omega)] at hz
        have hlt : j < L.findIdx (isI x) := by omega
        have := List.not_of_lt_findIdx hlt
        have ez : L[j]'(by omega) = z := by
          rw [List.getElem?_eq_getElem (by omega)] at hz
          exact Option.some.inj hz
        rw [ez] at this
        simpa using this)]
    · rw [List.find?_eq_none] at h4
      rw [h3, idxV_none (p := isI x) (L := L ++ [m]) (fun j z hj hz => by
        by_cases hjl : j < L.length
        · rw [List.getElem?_append_left hjl] at hz
          simpa using h4 z (List.mem_of_getElem? hz)
        · have : j = L.length := by simp at hj; omega
          subst this
          rw [List.getElem?_append_right (Nat.le_refl _), Nat.sub_self] at hz
          simp at hz
          subst hz
          simp [isI]
          exact fun h => e h.symm)]
set_option maxRecDepth 100000 in
/-- A number more. -/
theorem MapN.add {w : World} {b : Nat} {L : List Int} (h : MapN w b L) (hn : L.length < 1000000000000) {x : Int} (hx : W64 x) (hno : L.any (isI x) = false) :
    ∃ w', (Instr.mapUpdate 61 (.map (some b)) (.int .i64 x) (.int .i64 L.length)).run Try.prog w = .ok () w' ∧ MapN w' b (L ++ [x]) ∧ Chg (· = b) w w' := by
  obtain ⟨D, h1, h2, h3⟩ := h
  have hz : W64 (L.length : Int) := by constructor <;> omega
  obtain ⟨w', hrun, h4, h5⟩ := h1.update lawI Try.underlying61 (by unfold maxLen; omega) (keyOf_int_mk Try.underlying3 hx.wf) (plainElem_int Try.underlying3 hz.wf)
  refine ⟨w', hrun, ⟨_, by rw [List.length_append]; exact h4, ?_, fun i => ?_⟩, (Chg.refl _ _).grown h5 (fun k hk => .inr (by simpa using hk.symm))⟩
  · rw [size_put (h1.tidy lawI), (h3 x).1, hno, if_neg (by decide), h2]
    simp
  · obtain ⟨e1, e2⟩ := h3 i
    rw [List.any_append, idxI_app hno]
    by_cases hij : i = x
    · subst hij
      rw [has_put_same h1.isMap (by trivial), atKey_put_same h1.isMap (by trivial), if_pos rfl]
      simp [isI]
    · have hne : Lit.int .i64 i ≠ Lit.int .i64 x := fun e => hij (by injection e)
      rw [has_put_other hne, atKey_put_other hne, e1, e2, if_neg hij]
      have : isI i x = false := by simp only [isI, decide_eq_false_iff_not]; exact fun e => hij e.symm
      simp [this]

section
variable {t : TabD}
/-- Groups that tell states apart just as texts do. -/
def GrpT (t : TabD) (F : Nat → Int) : Prop := ∀ a b, a < t.n.length → b < t.n.length → (F a = F b ↔ eqB t a b = true)
theorem any_grp {F : Nat → Int} (hF : GrpT t F) {o : List Nat} (ho : ∀ s ∈ o, s < t.n.length) {s : Nat} (hs : s < t.n.length) : (o.map F).any (isI (F s)) = o.any (eqB t s) := by
  rw [List.any_map]
  apply Bool.eq_iff_iff.2
  rw [List.any_eq_true, List.any_eq_true]
  constructor
  · rintro ⟨x, hx, h⟩
    refine ⟨x, hx, (hF s x hs (ho x hx)).1 ?_⟩
    simp only [Function.comp, isI, decide_eq_true_eq] at h
    exact h.symm
  · rintro ⟨x, hx, h⟩
    refine ⟨x, hx, ?_⟩
    simp only [Function.comp, isI, decide_eq_true_eq]
    exact ((hF s x hs (ho x hx)).2 h).symm
theorem idx_grp {F : Nat → Int} (hF : GrpT t F) {o : List Nat} (ho : ∀ s ∈ o, s < t.n.length) {s : Nat} (hs : s < t.n.length) : idxV (isI (F s)) (o.map F) = numT t o s := by
  unfold numT
  have key : ∀ x ∈ o, isI (F s) (F x) = eqB t s x := fun x hx => by
    apply Bool.eq_iff_iff.2
    simp only [isI, decide_eq_true_eq]
    exact ⟨fun h => (hF s x hs (ho x hx)).1 h.symm, fun h => ((hF s x hs (ho x hx)).2 h).symm⟩
  rcases idx_cases (eqB t s) o with ⟨k, x, h1, h2, h3, -⟩ | ⟨h3, h4, -⟩
  · rw [h3]
    have hkl := (List.getElem?_eq_some_iff.1 h1).1
    refine idxV_found (x := F x) (by rw [List.getElem?_map, h1]; rfl) (by rw [key x (List.mem_of_getElem? h1)]; exact h2) (fun j y hj hy => ?_)
    rw [List.getElem?_map] at hy
    cases hoj : o[j]? with
    | none => rw [hoj] at hy; cases hy
    | some z =>
      rw [hoj] at hy
      obtain rfl := Option.some.inj hy
      rw [key z (List.mem_of_getElem? hoj)]
      have hfi : o.findIdx (eqB t s) = k := by unfold idxV at h3; split at h3 <;> omega
      have hlt : j < o.findIdx (eqB t s) := by omega
      have := List.not_of_lt_findIdx hlt
      have ez : o[j]'(by omega) = z := by
        rw [List.getElem?_eq_getElem (by omega)] at hoj
        exact Option.some.inj hoj
      rw [ez] at this
      simpa using this
  · rw [h3]
    rw [List.find?_eq_none] at h4
    refine idxV_none (fun j y hj hy => ?_)
    rw [List.getElem?_map] at hy
    cases hoj : o[j]? with
    | none => rw [hoj] at hy; cases hy
    | some z =>
      rw [hoj] at hy
      obtain rfl := Option.some.inj hy
      rw [key z (List.mem_of_getElem? hoj)]
      simpa using h4 z (List.mem_of_getElem? hoj)
/-- Where a bare table's cell leads. -/
theorem bare_cell (h : MayS t) {s c : Nat} {l : List Int} {x : Int} (hl : (bareT t).n[s]? = some l) (hx : l[c]? = some x) : (x < 0 ∧ eqB t (goN t s c) t.n.length = true) ∨ (∃ n : Nat, x = n ∧ n < t.n.length ∧ n = goN t s c ∧ eqB t (goN t s c) t.n.length = false) := by
  have h1 := goN_at hl hx
  rw [bare_go h, bare_nlen] at h1
  have hs : s < t.n.length := by have := (List.getElem?_eq_some_iff.1 hl).1; rwa [bare_nlen] at this
  have hl0 : t.n[s]? = some t.n[s] := List.getElem?_eq_getElem hs
  have hb := bare_row hl0
  rw [hl] at hb
  obtain rfl := Option.some.inj hb
  have hb2 : ∃ y, t.n[s][c]? = some y ∧ x = bareX t y := by
    unfold bareL at hx
    rw [List.getElem?_map] at hx
    cases hy : t.n[s][c]? with
    | none => rw [hy] at hx; cases hx
    | some y => rw [hy] at hx; exact ⟨y, rfl, (Option.some.inj hx).symm⟩
  obtain ⟨y, hy, hxy⟩ := hb2
  obtain ⟨b1, b2⟩ := (may_row h hl0).2 c y hy
  cases hd : eqB t (goN t s c) t.n.length with
  | true =>
    refine .inl ⟨?_, rfl⟩
    rw [hd, if_pos rfl] at h1
    by_cases h0 : 0 ≤ x
    · rw [if_pos h0] at h1
      exfalso
      have : x = y := by
        unfold bareX at hxy
        split at hxy
        · omega
        · exact hxy
      omega
    · omega
  | false =>
    rw [hd, if_neg (by decide)] at h1
    have hlt : goN t s c < t.n.length := by
      rcases Nat.lt_or_ge (goN t s c) t.n.length with k | k
      · exact k
      · have := goN_le h s c
        rw [show goN t s c = t.n.length by omega, eqB_refl] at hd
        cases hd
    by_cases h0 : 0 ≤ x
    · rw [if_pos h0] at h1
      exact .inr ⟨x.toNat, by omega, by omega, h1.symm, rfl⟩
    · rw [if_neg h0] at h1
      omega
end
end Go.Proofs.Ytodohgckncnipaa
/- The program's found: groups from 0's on, as they are found, each by one of its states. -/
namespace Go.Proofs.Ytodohgckncnipaa
open Go.RowKit Go.Maps

set_option maxRecDepth 100000 in
set_option maxHeartbeats 8000000 in
theorem found_any (t : TabD) (rs cs ns es : Sl) (B BN gF : Nat) (F : Nat → Int) (w : World) (hc : intE.In w B cs t.c) (hN : ListsIn w BN ns (bareT t).n) (hFn : NumAt w gF t.n.length F) (hG : GrpT t F) (hm : MayS t) (hf : Fair t) :
    Calls Try.prog 29 #[tabV rs cs ns es, .slice (some ⟨gF, 0, none⟩) t.n.length t.n.length] w fun e w' => ∃ v gm, e = .returned (.tuple #[v, .map (some gm)]) ∧ w.heap.size ≤ gm ∧ intE.Own w' w.heap.size v (natsI (orderT t)) ∧ MapN w' gm ((orderT t).map F) ∧ Chg (fun _ => False) w w' := by
  have hmm := @run_makeMap Try.prog
  have HCB := Lib.hid hc
  have HNB := Lib.hid hN
  have HFN := Lib.hid hFn
  have HG := Lib.hid hG
  have HM := Lib.hid hm
  have HF := Lib.hid hf
  obtain ⟨ra, rn, rc⟩ := rs
  obtain ⟨ca, cn, cc⟩ := cs
  obtain ⟨na, nn, nc⟩ := ns
  obtain ⟨ea, en, ec⟩ := es
  obtain ⟨hn0, hn1⟩ := hN.len
  rw [bare_nlen] at hn0
  have hn0 : nn = t.n.length := hn0
  subst hn0
  obtain ⟨rfl, hcc1⟩ := hc.len
  have fn := hf.n
  have fc := hf.c
  have hn0 := hm.nl
  obtain ⟨f0, zf0, w640⟩ := hFn.get hn0
  clear hc hN hFn hG hm hf
  obtain ⟨wt, hwt⟩ : ∃ x, x = w.alloc (.cells #[.slice ra rn rc, .slice ca t.c.length cc, .slice na t.n.length nc, .slice ea en ec] 26) := ⟨_, rfl⟩
  obtain ⟨wa, hwa⟩ : ∃ x, x = wt.alloc (.map #[] 0) := ⟨_, rfl⟩
  have hct : Chg (fun _ => False) w wt := by rw [hwt]; exact (Chg.refl _ _).alloc _
  have hca : Chg (fun _ => False) wt wa := by rw [hwa]; exact (Chg.refl _ _).alloc _
  have hst : wt.heap.size = w.heap.size + 1 := by rw [hwt]; simp
  have HC0 : Hid (Chg (fun _ => False) w wa) := Lib.hid (hct.trans hca)
  have HBX : Hid (BoxT wt w.heap.size (ra, rn, rc) (ca, t.c.length, cc) (na, t.n.length, nc) (ea, en, ec)) := Lib.hid (by rw [hwt]; exact tabBox w (ra, rn, rc) (ca, t.c.length, cc) (na, t.n.length, nc) (ea, en, ec) 26)
  have hma : MapN wa (w.heap.size + 1) [] := by rw [← hst, hwa]; exact MapN.made wt
  have hW0 : W64 (F 0) := ⟨w640.1, w640.2⟩
  obtain ⟨w1, hupd, hm1, hc1⟩ := hma.add (by simp) hW0 (by rfl)
  have hupd : (Instr.mapUpdate 61 (.map (some (w.heap.size + 1))) (.int .i64 (F 0)) (.int .i64 0)).run Try.prog (wt.alloc (.map #[] 0)) = .ok () w1 := by rw [← hwa]; exact hupd
  have HM1 : Hid (MapN w1 (w.heap.size + 1) (([0] : List Nat).map F)) := Lib.hid hm1
  have HSB : Hid (wa.heap.size = w.heap.size + 2) := Lib.hid (by rw [hwa]; simp [hst])
  have HC1 : Hid (Chg (fun x => x = w.heap.size + 1) wa w1) := Lib.hid hc1
  have HCT1 : Hid (Chg (fun x => x = w.heap.size + 1) wt w1) := Lib.hid ((hca.mono (fun _ _ h => absurd h (fun h => h))).trans hc1)
  have hw1s : w1.heap.size ≥ w.heap.size + 2 := by have := HSB.out; have := hc1.size; omega
  have HCW1 : Hid (Chg (fun _ => False) w w1) := Lib.hid (((hct.any (S := fun k => w.heap.size ≤ k)).trans (HCT1.out.mono (fun k _ e => by omega))).fresh)
  have HWT := Lib.hid hwt
  have HWA := Lib.hid hwa
  have f0 := HC0.out.cellS f0 (fun h => h)
  rw [hwa] at f0
  clear hwt hwa hct hca hma hm1 hc1
  show Calls Try.prog 29 #[.agg #[.slice ra rn rc, .slice ca t.c.length cc, .slice na t.n.length nc, .slice ea en ec], .slice (some ⟨gF, 0, none⟩) t.n.length t.n.length] w _
  go_enter Try.func29, Try.ntmps29
  go_upto_region 1 with (fail)
  rw [← HWT.out]
  go_upto_region 2 with (fail)
  clear hupd f0
  obtain ⟨gm, hgm⟩ : ∃ x, w.heap.size + 1 = x := ⟨_, rfl⟩
  rw [hgm] at hst HM1 HC1 HCT1 ⊢
  obtain ⟨w2, hw2⟩ : ∃ x, x = w1.alloc (.cells #[.int .i64 0] 3) := ⟨_, rfl⟩
  have hc2 : Chg (fun _ => False) w1 w2 := by rw [hw2]; exact (Chg.refl _ _).alloc _
  have HOR : Hid (intE.Own w2 (gm + 1) (.slice (some ⟨w1.heap.size, 0, none⟩) 1 1) (natsI [0])) := Lib.hid (by rw [hw2]; exact .inr ⟨w1.heap.size, [0], rfl, by omega, Elt.Row.alloc (E := intE) w1 [0] _ (show ∀ a ∈ ([0] : List Int), I.Byte a by decide), List.prefix_refl _, by simp [maxLen]⟩)
  have HMP := Lib.hid (HM1.out.chg hc2 (fun h => h))
  have HC2 : Hid (Chg (fun x => gm ≤ x) wt w2) := Lib.hid ((HCT1.out.mono (fun k _ e => by omega)).trans hc2.any)
  have HFO : Hid (FoundTo t 0 [0]) := Lib.hid (FoundTo.start HM.out)
  have HW2 := Lib.hid hw2
  have HST := Lib.hid hst
  have HGM := Lib.hid hgm
  have HWTC : Hid (Chg (fun _ => False) w wt) := Lib.hid (by rw [HWT.out]; exact (Chg.refl _ _).alloc _)
  have HBA : Hid (∀ wx, Chg (fun x => gm ≤ x) wt wx → wx.cell? ⟨w.heap.size, 1, none⟩ = some (.slice ca t.c.length cc) ∧ wx.cell? ⟨w.heap.size, 2, none⟩ = some (.slice na t.n.length nc)) := Lib.hid (fun wx hx => by
    have h := HBX.out.chg (hx.mono (T := fun k => wt.heap.size ≤ k) (fun k _ e => by omega)).fresh (fun h => h)
    exact ⟨h.2.1, h.2.2.1⟩)
  have HFR : Hid (∀ wx, Chg (fun x => gm ≤ x) wt wx → Chg (fun _ => False) w wx) := Lib.hid (fun wx hx => HWTC.out.trans (hx.mono (T := fun k => wt.heap.size ≤ k) (fun k _ e => by have := HST.out; omega)).fresh)
  clear hw2 hst hc2 hgm hn0 HM1 HC1 HCT1
  go_upto_region 3 with (fail)
  rw [← HW2.out]
  go_wp2
  go_loopw [4, 6] (fun v q wr => ∃ (i : Nat) (o : List Nat), q = .int .i64 i ∧ FoundTo t i o ∧ intE.Own wr (gm + 1) v (natsI o) ∧ MapN wr gm (o.map F) ∧ Chg (fun x => gm ≤ x) wt wr) (fun _ q _ => t.n.length + 1 - (intOf q).toNat)
  case atStart => exact ⟨0, [0], rfl, HFO.out, HOR.out, HMP.out, HC2.out⟩
  case round =>
    clear HFO HOR HMP HC2
    obtain ⟨i, o, rfl, hfo, hor, hmp, hc⟩ := hrel
    obtain ⟨va, vc, hv, hvc, -⟩ := hor.clip
    rw [natsI_len] at hv hvc
    subst hv
    have HFO := Lib.hid hfo
    have HOR := Lib.hid hor
    have HMP := Lib.hid hmp
    have HC := Lib.hid hc
    have hol := hfo.1.len_le
    have hio := hfo.2.1
    clear hfo hor hmp hc
    by_cases hil : i < o.length
    · have b2 : i < o.length := hil
      obtain ⟨s, hs⟩ : ∃ s, o[i]? = some s := ⟨_, List.getElem?_eq_getElem hil⟩
      have HS := Lib.hid hs
      have hsl := HFO.out.1.lt s (List.mem_of_getElem? hs)
      obtain ⟨q1, q2⟩ := HBA.out wr HC.out
      clear hs
      obtain ⟨wq, hwq⟩ : ∃ x, x = wr := ⟨_, rfl⟩
      rw [← hwq] at HOR HMP HC q1 q2 ⊢
      clear hwq
      go_wp2
      clear q1 q2
      go_loopw [4, 27] (fun v q wr => ∃ k : Nat, k ≤ t.c.length ∧ q = .int .i64 k ∧ intE.Own wr (gm + 1) v (natsI (rowK t s k o)) ∧ MapN wr gm ((rowK t s k o).map F) ∧ Chg (fun x => gm ≤ x) wt wr) (fun _ q _ => t.c.length - (intOf q).toNat)
      case atStart => exact ⟨0, by omega, rfl, HOR.out, HMP.out, HC.out⟩
      case round =>
        clear HOR HMP HC
        obtain ⟨k, hk, rfl, hor, hmp, hc⟩ := hrel
        obtain ⟨hord, hpre⟩ := rowK_ok HM.out HFO.out.1 s k
        obtain ⟨va, vc, hv, hvc, -⟩ := hor.clip
        rw [natsI_len] at hv hvc
        subst hv
        have HORD := Lib.hid hord
        have HOR := Lib.hid hor
        have HMP := Lib.hid hmp
        have HC := Lib.hid hc
        have hrl := hord.len_le
        have hir : i < (rowK t s k o).length := Nat.lt_of_lt_of_le hil hpre.length_le
        have hrs : (rowK t s k o)[i]? = some s := by
          obtain ⟨r, hr⟩ := hpre
          rw [← hr, List.getElem?_append_left hil]
          exact HS.out
        have hcf := HFR.out wr hc
        clear hord hpre hmp hc
        by_cases hkl : k < t.c.length
        · have b3 : k < t.c.length := hkl
          obtain ⟨c, gc, oc, hcx, hca, c0, x0, x1, -, -⟩ := (HCB.out.same hcf).getI hkl
          subst hca
          obtain ⟨cn', rfl⟩ : ∃ c' : Nat, c = c' := ⟨c.toNat, by have := (HM.out.cb c (List.mem_of_getElem? hcx)).1; omega⟩
          have hcc := col_lt HM.out (List.mem_of_getElem? hcx)
          rw [Int.toNat_natCast] at hcc
          obtain ⟨go, oo, hoa, c1⟩ : ∃ go oo, va = some ⟨go, oo, none⟩ ∧ wr.cell? ⟨go, oo + i, none⟩ = some (.int .i64 (s : Int)) := by
            obtain ⟨x, g, o', hx, ha, hcell, -⟩ := (hor.in' (c' := vc) hvc).getI (k := i) (by rw [natsI_len]; exact hir)
            rw [natsI_get hrs] at hx
            obtain rfl := Option.some.inj hx
            exact ⟨g, o', ha, hcell⟩
          subst hoa
          obtain ⟨l, gn, on, la, lc, hl, hna, n0, hin, -, -⟩ := (HNB.out.same hcf).getIn (k := s) (by rw [bare_nlen]; exact hsl)
          subst hna
          have hlc : l.length = colsN t := by
            have h1 : t.n[s]? = some t.n[s] := List.getElem?_eq_getElem hsl
            have h2 := bare_row h1
            rw [hl] at h2
            rw [Option.some.inj h2]
            unfold bareL
            rw [List.length_map]
            exact (may_row HM.out h1).1
          have hcl : cn' < l.length := by omega
          obtain ⟨x, gx, ox, hx, hxa, xc, -, -, -, -⟩ := hin.getI hcl
          subst hxa
          have hcase := bare_cell HM.out hl hx
          have HCX := Lib.hid hcx
          have HCC := Lib.hid (show _ ∧ _ ∧ _ from ⟨c1, n0, xc⟩)
          have HSTEP : Hid (rowK t s (k + 1) o = insN t (rowK t s k o) (goN t s cn')) := Lib.hid (by rw [rowK_step hcx, Int.toNat_natCast])
          have HCS := Lib.hid hcase
          clear hcx c1 n0 xc hor hrs hl hx hin hlc hcase
          go_upto_region 9 with (fail)
          clear c0
          refine wp_region_same (fun w' => Chg (fun _ => False) wr w') (by kernel_rfl) (by kernel_rfl) ?_ ?_
          · exact (Chg.refl _ _).drew
          (refine wpC_read rfl (fun _ _ _ h => h) (fun K hK => ?_); apply Exists.intro; refine ⟨fun _ w' _ hC => ?_, ?_⟩; ((skip); go_simp; try with_reducible rfl); (try go_simp); refine hK _ ?_; clear hK K); (refine wpC_read rfl (fun _ _ _ h => h) (fun K hK => ?_); apply Exists.intro; refine ⟨fun _ w' _ hC => ?_, ?_⟩; ((have q2 := (HBA.out w' (HC.out.trans hC.any)).2; have c1 := hC.cellS HCC.out.1 (fun h => h); have n0 := hC.cellS HCC.out.2.1 (fun h => h); have xc := hC.cellS HCC.out.2.2 (fun h => h)); go_simp; try with_reducible rfl); (try go_simp); refine hK _ ?_; clear hK K); (refine wpC_read rfl (fun _ _ _ h => h) (fun K hK => ?_); apply Exists.intro; refine ⟨fun _ w' _ hC => ?_, ?_⟩; ((skip); go_simp; try with_reducible rfl); (try go_simp); refine hK _ ?_; clear hK K); (refine wpC_read rfl (fun _ _ _ h => h) (fun K hK => ?_); apply Exists.intro; refine ⟨fun _ w' _ hC => ?_, ?_⟩; ((skip); go_simp; try with_reducible rfl); (try go_simp); refine hK _ ?_; clear hK K); (refine wpC_read rfl (fun _ _ _ h => h) (fun K hK => ?_); apply Exists.intro; refine ⟨fun _ w' _ hC => ?_, ?_⟩; ((skip); go_simp; try with_reducible rfl); (try go_simp); refine hK _ ?_; clear hK K); (refine wpC_read rfl (fun _ _ _ h => h) (fun K hK => ?_); apply Exists.intro; refine ⟨fun _ w' _ hC => ?_, ?_⟩; ((have q2 := (HBA.out w' (HC.out.trans hC.any)).2; have c1 := hC.cellS HCC.out.1 (fun h => h); have n0 := hC.cellS HCC.out.2.1 (fun h => h); have xc := hC.cellS HCC.out.2.2 (fun h => h)); go_simp; try with_reducible rfl); (try go_simp); refine hK _ ?_; clear hK K); (refine wpC_read rfl (fun _ _ _ h => h) (fun K hK => ?_); apply Exists.intro; refine ⟨fun _ w' _ hC => ?_, ?_⟩; ((skip); go_simp; try with_reducible rfl); (try go_simp); refine hK _ ?_; clear hK K); (refine wpC_read rfl (fun _ _ _ h => h) (fun K hK => ?_); apply Exists.intro; refine ⟨fun _ w' _ hC => ?_, ?_⟩; ((have q2 := (HBA.out w' (HC.out.trans hC.any)).2; have c1 := hC.cellS HCC.out.1 (fun h => h); have n0 := hC.cellS HCC.out.2.1 (fun h => h); have xc := hC.cellS HCC.out.2.2 (fun h => h)); go_simp; try with_reducible rfl); (try go_simp); refine hK _ ?_; clear hK K); (refine wpC_read rfl (fun _ _ _ h => h) (fun K hK => ?_); apply Exists.intro; refine ⟨fun _ w' _ hC => ?_, ?_⟩; ((skip); go_simp; try with_reducible rfl); (try go_simp); refine hK _ ?_; clear hK K); (refine wpC_read rfl (fun _ _ _ h => h) (fun K hK => ?_); apply Exists.intro; refine ⟨fun _ w' _ hC => ?_, ?_⟩; ((skip); go_simp; try with_reducible rfl); (try go_simp); refine hK _ ?_; clear hK K); (refine wpC_read rfl (fun _ _ _ h => h) (fun K hK => ?_); apply Exists.intro; refine ⟨fun _ w' _ hC => ?_, ?_⟩; ((have q2 := (HBA.out w' (HC.out.trans hC.any)).2; have c1 := hC.cellS HCC.out.1 (fun h => h); have n0 := hC.cellS HCC.out.2.1 (fun h => h); have xc := hC.cellS HCC.out.2.2 (fun h => h)); go_simp; try with_reducible rfl); (try go_simp); refine hK _ ?_; clear hK K); (refine wpC_read rfl (fun _ _ _ h => h) (fun K hK => ?_); apply Exists.intro; refine ⟨fun _ w' _ hC => ?_, ?_⟩; ((skip); go_simp; try with_reducible rfl); (try go_simp); refine hK _ ?_; clear hK K)
          refine wpC_nil ?_
          intro wx hCx
          have HCX2 := Lib.hid (HC.out.trans hCx.any)
          have HOX := Lib.hid (HOR.out.chg hCx (fun _ _ _ h => h))
          have HMX := Lib.hid (HMP.out.chg hCx (fun h => h))
          clear HOR HMP HCC HC
          rcases HCS.out with ⟨hneg, hd⟩ | ⟨n, rfl, hnl, hng, hd⟩
          · have b4 : decide (x < 0) = true := by simpa using hneg
            have e : Hid (rowK t s (k + 1) o = rowK t s k o) := Lib.hid (by rw [HSTEP.out]; unfold insN; rw [hd, Bool.true_or, if_pos rfl])
            have HOX2 : Hid (intE.Own wx (gm + 1) (.slice (some ⟨go, oo, none⟩) (rowK t s k o).length vc) (natsI (rowK t s (k + 1) o))) := Lib.hid (by rw [e.out]; exact HOX.out)
            have HMX2 : Hid (MapN wx gm ((rowK t s (k + 1) o).map F)) := Lib.hid (by rw [e.out]; exact HMX.out)
            clear hd HCS
            go_wp2
            go_roundw
            case rel => exact ⟨k + 1, by omega, by go_num, HOX2.out, HMX2.out, HCX2.out⟩
            case measure => simp [intOf]; omega
          · have b4 : decide ((n : Int) < 0) = false := by simp
            obtain ⟨fc0, fz0, fw⟩ := (HFN.out.same (HFR.out wx HCX2.out)).get hnl
            have hW : W64 (F n) := ⟨fw.1, fw.2⟩
            have hany := any_grp HG.out (fun s hs => HORD.out.lt s hs) hnl
            have hlook := HMX.out.look hW
            rw [hany] at hlook
            rw [← hng] at hd
            have HSTEP2 : Hid (rowK t s (k + 1) o = if (rowK t s k o).any (eqB t n) = true then rowK t s k o else rowK t s k o ++ [n]) := Lib.hid (by rw [HSTEP.out, ← hng]; unfold insN; rw [hd, Bool.false_or])
            cases hin : (rowK t s k o).any (eqB t n) with
            | true =>
              rw [hin] at hlook
              have e : Hid (rowK t s (k + 1) o = rowK t s k o) := Lib.hid (by rw [HSTEP2.out, if_pos hin])
              have HOX2 : Hid (intE.Own wx (gm + 1) (.slice (some ⟨go, oo, none⟩) (rowK t s k o).length vc) (natsI (rowK t s (k + 1) o))) := Lib.hid (by rw [e.out]; exact HOX.out)
              have HMX2 : Hid (MapN wx gm ((rowK t s (k + 1) o).map F)) := Lib.hid (by rw [e.out]; exact HMX.out)
              clear hd HCS hany hin hng
              go_wp2
              go_roundw
              case rel => exact ⟨k + 1, by omega, by go_num, HOX2.out, HMX2.out, HCX2.out⟩
              case measure => simp [intOf]; omega
            | false =>
              rw [hin] at hlook hany
              have e : Hid (rowK t s (k + 1) o = rowK t s k o ++ [n]) := Lib.hid (by rw [HSTEP2.out, hin, if_neg (by decide)])
              obtain ⟨w5, hupd, hm5, hc5⟩ := HMX.out.add (by rw [List.length_map]; omega) hW hany
              rw [List.length_map] at hupd
              have HM5 : Hid (MapN w5 gm ((rowK t s (k + 1) o).map F)) := Lib.hid (by rw [e.out, List.map_append]; exact hm5)
              have HO5 := Lib.hid (HOX.out.chgB hc5 (fun g hg e => by have := (HOX.out.blk hg).1; omega))
              have HC5 : Hid (Chg (fun x => gm ≤ x) wt w5) := Lib.hid (HCX2.out.trans (hc5.mono (fun k _ e => by omega)))
              have HB5 : Hid (gm + 1 ≤ w5.heap.size) := Lib.hid (by have := hm5.lt; omega)
              have HLT : Hid ((rowK t s k o).length < t.n.length) := Lib.hid (by
                have := (rowK_ok HM.out HFO.out.1 s (k + 1)).1.len_le
                rw [e.out] at this
                simp at this
                omega)
              have HYB : Hid (∀ a ∈ [(n : Int)], intE.ok a) := Lib.hid (fun a ha => by rw [List.mem_singleton] at ha; subst ha; constructor <;> omega)
              clear hd HCS hany hin hng hm5 hc5 HMX
              go_wp2_with (at_builtin; refine Elt.wpList_append2 intE rfl _ _ 23 23 rfl rfl (gm + 1) (.slice (some ⟨go, oo, none⟩) (rowK t s k o).length vc) (natsI (rowK t s k o)) [(n : Int)] (.slice (some ⟨w5.heap.size, 0, none⟩) 1 1) rfl rfl (HO5.out.chg ((Chg.refl (fun _ => False) _).alloc _) (fun _ _ _ h => h)) (by have := HB5.out; simp; omega) (intE.srcLit (Y := [(n : Int)]) 1 HYB.out) HYB.out (by rw [natsI_len]; have := HLT.out; simp; omega) ?_; intro v' w6 HO6 HC6 HC6b)
              have HOY : Hid (intE.Own w6 (gm + 1) v' (natsI (rowK t s (k + 1) o))) := Lib.hid (by rw [e.out, natsI_app]; exact HO6.out)
              have HMY : Hid (MapN w6 gm ((rowK t s (k + 1) o).map F)) := Lib.hid ((HM5.out.chg ((Chg.refl (fun _ => False) _).alloc _) (fun h => h)).chg HC6.out (by omega))
              have HCY : Hid (Chg (fun x => gm ≤ x) wt w6) := Lib.hid ((HC5.out.trans ((Chg.refl _ _).alloc _)).trans (HC6.out.mono (fun k _ e => by omega)))
              go_roundw
              case rel => exact ⟨k + 1, by omega, by go_num, HOY.out, HMY.out, HCY.out⟩
              case measure => simp [intOf]; omega
        · obtain rfl : k = t.c.length := by omega
          have HFN2 : Hid (FoundTo t (i + 1) (rowK t s t.c.length o)) := Lib.hid (by rw [rowK_all]; exact HFO.out.next HM.out HS.out)
          clear hor hrs
          go_wp2
          go_roundw
          case rel => exact ⟨i + 1, _, by go_num, HFN2.out, HOR.out, HMP.out, HC.out⟩
          case measure => simp [intOf]; omega
    · obtain rfl : i = o.length := by omega
      have HORD : Hid (orderT t = o) := Lib.hid HFO.out.done
      have HFIN : Hid (w.heap.size ≤ gm ∧ intE.Own wr w.heap.size (.slice va o.length vc) (natsI (orderT t)) ∧ MapN wr gm ((orderT t).map F) ∧ Chg (fun _ => False) w wr) := Lib.hid (by
        rw [HORD.out]
        exact ⟨by have := HGM.out; omega, HOR.out.lower (by have := HGM.out; omega), HMP.out, HFR.out wr HC.out⟩)
      go_wp2
      go_ret2
      exact ⟨_, gm, rfl, HFIN.out⟩
end Go.Proofs.Ytodohgckncnipaa
/- Lists of ints, of ranges, of lists compared; lists clipped; the program's two questions of a column. -/
namespace Go.Proofs.Ytodohgckncnipaa
open Go.RowKit

theorem clipInt (w : World) (a : Option Addr) (n c : Nat) (hn : n ≤ c) : Calls Try.prog 36 #[.slice a n c] w fun e w' => e = .returned (.slice a n n) ∧ w = w' := by
  cases a with
  | none =>
    go_enter Try.func36, Try.ntmps36
    go_wp2
    go_ret
    exact ⟨rfl, rfl⟩
  | some ad =>
    go_enter Try.func36, Try.ntmps36
    go_wp2
    go_ret
    exact ⟨rfl, rfl⟩
theorem clipRng (w : World) (a : Option Addr) (n c : Nat) (hn : n ≤ c) : Calls Try.prog 35 #[.slice a n c] w fun e w' => e = .returned (.slice a n n) ∧ w = w' := by
  cases a with
  | none =>
    go_enter Try.func35, Try.ntmps35
    go_wp2
    go_ret
    exact ⟨rfl, rfl⟩
  | some ad =>
    go_enter Try.func35, Try.ntmps35
    go_wp2
    go_ret
    exact ⟨rfl, rfl⟩
theorem clipList (w : World) (a : Option Addr) (n c : Nat) (hn : n ≤ c) : Calls Try.prog 37 #[.slice a n c] w fun e w' => e = .returned (.slice a n n) ∧ w = w' := by
  cases a with
  | none =>
    go_enter Try.func37, Try.ntmps37
    go_wp2
    go_ret
    exact ⟨rfl, rfl⟩
  | some ad =>
    go_enter Try.func37, Try.ntmps37
    go_wp2
    go_ret
    exact ⟨rfl, rfl⟩

set_option maxRecDepth 100000 in
set_option maxHeartbeats 2000000 in
theorem equalInt_any (X Y : List Int) (ax ay : Option Addr) (cx cy Bx By : Nat) (w : World) (hx : intE.In w Bx (ax, X.length, cx) X) (hy : intE.In w By (ay, Y.length, cy) Y) (hl : X.length ≤ 1000000000) :
    Calls Try.prog 34 #[.slice ax X.length cx, .slice ay Y.length cy] w fun e w' => e = .returned (.bool (decide (X = Y))) ∧ Chg (fun _ => False) w w' := by
  have HX := Lib.hid hx
  have HY := Lib.hid hy
  clear hx hy
  by_cases hxy : X.length = Y.length
  · have b10 : ((X.length : Int) != (Y.length : Int)) = false := by simp [hxy]
    have HXY := Lib.hid hxy
    clear hxy
    go_enter Try.func34, Try.ntmps34
    go_wp2
    go_loopw [13] (fun i wr => ∃ k : Nat, k ≤ X.length ∧ i = .int .i64 k ∧ Chg (fun _ => False) w wr ∧ X.take k = Y.take k) (fun i _ => X.length - (intOf i).toNat)
    case atStart => exact ⟨0, by omega, rfl, Chg.refl _ _, by simp⟩
    case round =>
      obtain ⟨k, hk, rfl, hc, he⟩ := hrel
      have HC := Lib.hid hc
      have HE := Lib.hid he
      clear hc he
      by_cases hkl : k < X.length
      · have b14 : decide ((k : Int) < (X.length : Int)) = true := by simp; omega
        have hkl2 : k < Y.length := by have := HXY.out; omega
        obtain ⟨x, g, o, hx, rfl, c0, -, -, -, -⟩ := (HX.out.same HC.out).getI hkl
        obtain ⟨y, g2, o2, hy, rfl, c1, -, -, -, -⟩ := (HY.out.same HC.out).getI hkl2
        have HP := Lib.hid hx
        have HQ := Lib.hid hy
        have HCC := Lib.hid (show _ ∧ _ from ⟨c0, c1⟩)
        clear hx hy c0 c1
        go_upto_region 6 with (fail)
        refine wp_region_same (fun w' => Chg (fun _ => False) wr w') (by kernel_rfl) (by kernel_rfl) ?_ ?_
        · exact (Chg.refl _ _).drew
        (refine wpC_read rfl (fun _ _ _ h => h) (fun K hK => ?_); apply Exists.intro; refine ⟨fun _ w' _ hC => ?_, ?_⟩; ((skip); go_simp; try with_reducible rfl); (try go_simp); refine hK _ ?_; clear hK K); (refine wpC_read rfl (fun _ _ _ h => h) (fun K hK => ?_); apply Exists.intro; refine ⟨fun _ w' _ hC => ?_, ?_⟩; ((skip); go_simp; try with_reducible rfl); (try go_simp); refine hK _ ?_; clear hK K); (refine wpC_read rfl (fun _ _ _ h => h) (fun K hK => ?_); apply Exists.intro; refine ⟨fun _ w' _ hC => ?_, ?_⟩; ((skip); go_simp; try with_reducible rfl); (try go_simp); refine hK _ ?_; clear hK K); (refine wpC_read rfl (fun _ _ _ h => h) (fun K hK => ?_); apply Exists.intro; refine ⟨fun _ w' _ hC => ?_, ?_⟩; ((have c0 := hC.cellS HCC.out.1 (fun h => h); have c1 := hC.cellS HCC.out.2 (fun h => h)); go_simp; try with_reducible rfl); (try go_simp); refine hK _ ?_; clear hK K); (refine wpC_read rfl (fun _ _ _ h => h) (fun K hK => ?_); apply Exists.intro; refine ⟨fun _ w' _ hC => ?_, ?_⟩; ((skip); go_simp; try with_reducible rfl); (try go_simp); refine hK _ ?_; clear hK K); (refine wpC_read rfl (fun _ _ _ h => h) (fun K hK => ?_); apply Exists.intro; refine ⟨fun _ w' _ hC => ?_, ?_⟩; ((skip); go_simp; try with_reducible rfl); (try go_simp); refine hK _ ?_; clear hK K); (refine wpC_read rfl (fun _ _ _ h => h) (fun K hK => ?_); apply Exists.intro; refine ⟨fun _ w' _ hC => ?_, ?_⟩; ((skip); go_simp; try with_reducible rfl); (try go_simp); refine hK _ ?_; clear hK K); (refine wpC_read rfl (fun _ _ _ h => h) (fun K hK => ?_); apply Exists.intro; refine ⟨fun _ w' _ hC => ?_, ?_⟩; ((have c0 := hC.cellS HCC.out.1 (fun h => h); have c1 := hC.cellS HCC.out.2 (fun h => h)); go_simp; try with_reducible rfl); (try go_simp); refine hK _ ?_; clear hK K); (refine wpC_read rfl (fun _ _ _ h => h) (fun K hK => ?_); apply Exists.intro; refine ⟨fun _ w' _ hC => ?_, ?_⟩; ((skip); go_simp; try with_reducible rfl); (try go_simp); refine hK _ ?_; clear hK K)
        refine wpC_nil ?_
        intro w2 hC2
        have HC2 := Lib.hid (HC.out.trans hC2)
        clear hC2 HCC
        by_cases hpq : x = y
        · have d1 : (x != y) = false := by simp [hpq]
          have HT : Hid (X.take (k + 1) = Y.take (k + 1)) := Lib.hid (by rw [List.take_add_one, List.take_add_one, HE.out, HP.out, HQ.out, hpq])
          clear HE HP HQ hpq
          go_wp2
          go_roundw
          case rel => exact ⟨k + 1, by omega, by go_num, HC2.out, HT.out⟩
          case measure => simp [intOf]; omega
        · have d1 : (x != y) = true := by simp [hpq]
          have HD : Hid (decide (X = Y) = false) := Lib.hid (by
            apply decide_eq_false
            intro h
            have h1 := HP.out
            rw [h, HQ.out] at h1
            exact hpq (Option.some.inj h1).symm)
          clear HE HP HQ hpq
          go_wp2
          go_ret
          exact ⟨by rw [HD.out]; rfl, HC2.out⟩
      · obtain rfl : k = X.length := by omega
        have b14 : decide ((X.length : Int) < (X.length : Int)) = false := by simp
        have HD : Hid (decide (X = Y) = true) := Lib.hid (by
          have := HE.out
          rw [List.take_length, HXY.out, List.take_length] at this
          simp [this])
        clear HE
        go_wp2
        go_ret
        exact ⟨by rw [HD.out]; rfl, HC.out⟩
  · have b10 : ((X.length : Int) != (Y.length : Int)) = true := by simp; omega
    have HD : Hid (decide (X = Y) = false) := Lib.hid (by
      apply decide_eq_false
      intro h
      exact hxy (by rw [h]))
    go_enter Try.func34, Try.ntmps34
    go_wp2
    go_ret
    exact ⟨by rw [HD.out]; rfl, Chg.refl _ _⟩

set_option maxRecDepth 100000 in
set_option maxHeartbeats 2000000 in
theorem equalRng_any (X Y : List (Int × Int)) (ax ay : Option Addr) (cx cy Bx By : Nat) (w : World) (hx : rngE.In w Bx (ax, X.length, cx) X) (hy : rngE.In w By (ay, Y.length, cy) Y) (hl : X.length ≤ 1000000000) :
    Calls Try.prog 48 #[.slice ax X.length cx, .slice ay Y.length cy] w fun e w' => e = .returned (.bool (decide (X = Y))) ∧ Chg (fun _ => False) w w' := by
  have HX := Lib.hid hx
  have HY := Lib.hid hy
  clear hx hy
  by_cases hxy : X.length = Y.length
  · have b10 : ((X.length : Int) != (Y.length : Int)) = false := by simp [hxy]
    have HXY := Lib.hid hxy
    clear hxy
    go_enter Try.func48, Try.ntmps48
    go_wp2
    go_loopw [13] (fun i wr => ∃ k : Nat, k ≤ X.length ∧ i = .int .i64 k ∧ Chg (fun _ => False) w wr ∧ X.take k = Y.take k) (fun i _ => X.length - (intOf i).toNat)
    case atStart => exact ⟨0, by omega, rfl, Chg.refl _ _, by simp⟩
    case round =>
      obtain ⟨k, hk, rfl, hc, he⟩ := hrel
      have HC := Lib.hid hc
      have HE := Lib.hid he
      clear hc he
      by_cases hkl : k < X.length
      · have b14 : decide ((k : Int) < (X.length : Int)) = true := by simp; omega
        have hkl2 : k < Y.length := by have := HXY.out; omega
        obtain ⟨p0, p1, g, o, hx, rfl, c0, c1, -, -, -, -⟩ := (HX.out.same HC.out).getR hkl
        obtain ⟨q0, q1, g2, o2, hy, rfl, c2, c3, -, -, -, -⟩ := (HY.out.same HC.out).getR hkl2
        have HP := Lib.hid hx
        have HQ := Lib.hid hy
        clear hx hy
        by_cases hpq : (p0, p1) = (q0, q1)
        · injection hpq with h1 h2
          subst h1 h2
          have HT : Hid (X.take (k + 1) = Y.take (k + 1)) := Lib.hid (by rw [List.take_add_one, List.take_add_one, HE.out, HP.out, HQ.out])
          clear HE HP HQ
          go_upto_region 6 with (fail)
          go_still (by kernel_rfl)
          go_wp2
          go_roundw
          case rel => first | exact ⟨k + 1, by omega, by go_num, HC.out.drew, HT.out⟩ | ((repeat apply Exists.intro); exact ⟨⟨k + 1, by omega, rfl, HC.out.drew, HT.out⟩, by (repeat' apply And.intro) <;> first | rfl | go_num⟩)
          case measure => simp [intOf]; omega
        · have HD : Hid (decide (X = Y) = false) := Lib.hid (by
            apply decide_eq_false
            intro h
            rw [h, HQ.out] at HP
            exact hpq (Option.some.inj HP.out).symm)
          have hp3 : ¬ p0 = q0 ∨ (p0 = q0 ∧ ¬ p1 = q1) := by
            by_cases h : p0 = q0
            · exact .inr ⟨h, fun h2 => hpq (by rw [h, h2])⟩
            · exact .inl h
          clear HE HP HQ hpq
          rcases hp3 with hp3 | ⟨hp3, hp4⟩
          · go_upto_region 6 with (fail)
            go_still (by kernel_rfl)
            go_wp2
            go_ret
            exact ⟨by rw [HD.out]; rfl, HC.out.drew⟩
          · subst hp3
            go_upto_region 6 with (fail)
            go_still (by kernel_rfl)
            go_wp2
            go_ret
            exact ⟨by rw [HD.out]; rfl, HC.out.drew⟩
      · obtain rfl : k = X.length := by omega
        have b14 : decide ((X.length : Int) < (X.length : Int)) = false := by simp
        have HD : Hid (decide (X = Y) = true) := Lib.hid (by
          have := HE.out
          rw [List.take_length, HXY.out, List.take_length] at this
          simp [this])
        clear HE
        go_wp2
        go_ret
        exact ⟨by rw [HD.out]; rfl, HC.out⟩
  · have b10 : ((X.length : Int) != (Y.length : Int)) = true := by simp; omega
    have HD : Hid (decide (X = Y) = false) := Lib.hid (by
      apply decide_eq_false
      intro h
      exact hxy (by rw [h]))
    go_enter Try.func48, Try.ntmps48
    go_wp2
    go_ret
    exact ⟨by rw [HD.out]; rfl, Chg.refl _ _⟩

set_option maxRecDepth 100000 in
set_option maxHeartbeats 2000000 in
theorem equalLists_any (X Y : List (List Int)) (ax ay : Option Addr) (cx cy Bx By : Nat) (w : World) (hx : ListsIn w Bx (ax, X.length, cx) X) (hy : ListsIn w By (ay, Y.length, cy) Y) (hl : X.length ≤ 1000000000) (hll : ∀ l ∈ X, l.length ≤ 1000000000) :
    Calls Try.prog 49 #[.slice ax X.length cx, .slice ay Y.length cy, .func (.func 34) #[] #[]] w fun e w' => e = .returned (.bool (decide (X = Y))) ∧ Chg (fun _ => False) w w' := by
  have eg := enters_of Try.func34 (by kernel_rfl) rfl
  have HX := Lib.hid hx
  have HY := Lib.hid hy
  have HLL := Lib.hid hll
  clear hx hy hll
  by_cases hxy : X.length = Y.length
  · have b10 : ((X.length : Int) != (Y.length : Int)) = false := by simp [hxy]
    have HXY := Lib.hid hxy
    clear hxy
    go_enter Try.func49, Try.ntmps49
    go_wp2
    go_loopw [17] (fun i wr => ∃ k : Nat, k ≤ X.length ∧ i = .int .i64 k ∧ Chg (fun _ => False) w wr ∧ X.take k = Y.take k) (fun i _ => X.length - (intOf i).toNat)
    case atStart => exact ⟨0, by omega, rfl, Chg.refl _ _, by simp⟩
    case round =>
      obtain ⟨k, hk, rfl, hc, he⟩ := hrel
      have HC := Lib.hid hc
      have HE := Lib.hid he
      clear hc he
      by_cases hkl : k < X.length
      · have b14 : decide ((k : Int) < (X.length : Int)) = true := by simp; omega
        have hkl2 : k < Y.length := by have := HXY.out; omega
        obtain ⟨x, g, o, xa, xc, hx, rfl, c0, hxi, -, -⟩ := (HX.out.same HC.out).getIn hkl
        obtain ⟨y, g2, o2, ya, yc, hy, rfl, c1, hyi, -, -⟩ := (HY.out.same HC.out).getIn hkl2
        have HP := Lib.hid hx
        have HQ := Lib.hid hy
        have hxl := HLL.out x (List.mem_of_getElem? hx)
        have HXI := Lib.hid hxi
        have HYI := Lib.hid hyi
        clear hx hy hxi hyi
        go_wp2_with fail
        refine (equalInt_any x y xa ya xc yc Bx By wr HXI.out HYI.out hxl).mono ?_
        rintro e w2 ⟨rfl, hc2⟩
        have HC2 := Lib.hid (HC.out.trans hc2)
        clear hc2 c0 c1
        by_cases hpq : x = y
        · have HT : Hid (X.take (k + 1) = Y.take (k + 1)) := Lib.hid (by rw [List.take_add_one, List.take_add_one, HE.out, HP.out, HQ.out, hpq])
          have d1 : decide (x = y) = true := by simp [hpq]
          rw [d1]
          clear HE HP HQ hpq d1
          go_wp2
          go_roundw
          case rel => exact ⟨k + 1, by omega, by go_num, HC2.out, HT.out⟩
          case measure => simp [intOf]; omega
        · have HD : Hid (decide (X = Y) = false) := Lib.hid (by
            apply decide_eq_false
            intro h
            have h1 := HP.out
            rw [h, HQ.out] at h1
            exact hpq (Option.some.inj h1).symm)
          have d1 : decide (x = y) = false := by simp [hpq]
          rw [d1]
          clear HE HP HQ hpq d1
          go_wp2
          go_ret
          exact ⟨by rw [HD.out]; rfl, HC2.out⟩
      · obtain rfl : k = X.length := by omega
        have b14 : decide ((X.length : Int) < (X.length : Int)) = false := by simp
        have HD : Hid (decide (X = Y) = true) := Lib.hid (by
          have := HE.out
          rw [List.take_length, HXY.out, List.take_length] at this
          simp [this])
        clear HE
        go_wp2
        go_ret
        exact ⟨by rw [HD.out]; rfl, HC.out⟩
  · have b10 : ((X.length : Int) != (Y.length : Int)) = true := by simp; omega
    have HD : Hid (decide (X = Y) = false) := Lib.hid (by
      apply decide_eq_false
      intro h
      exact hxy (by rw [h]))
    go_enter Try.func49, Try.ntmps49
    go_wp2
    go_ret
    exact ⟨by rw [HD.out]; rfl, Chg.refl _ _⟩

theorem gives_pos (Z : List Int) (w : World) : GivesM 31 #[] (fun n => decide (0 ≤ n)) Z w := by
  intro x hx w' hc
  show Calls Try.prog 31 #[.int .i64 x] w' _
  by_cases h : 0 ≤ x
  · have d1 : decide (0 ≤ x) = true := by simpa using h
    show Calls Try.prog 31 #[.int .i64 x] w' fun e w'' => e = .returned (.bool (decide (0 ≤ x))) ∧ Chg (fun _ => False) w' w''
    rw [d1]
    go_enter Try.func31, Try.ntmps31
    go_wp2
    go_ret
    exact ⟨rfl, Chg.refl _ _⟩
  · have d1 : decide (0 ≤ x) = false := by simpa using h
    show Calls Try.prog 31 #[.int .i64 x] w' fun e w'' => e = .returned (.bool (decide (0 ≤ x))) ∧ Chg (fun _ => False) w' w''
    rw [d1]
    go_enter Try.func31, Try.ntmps31
    go_wp2
    go_ret
    exact ⟨rfl, Chg.refl _ _⟩
theorem any_pos (Z : List Int) : (Z.any fun n => decide (0 ≤ n)) = !negB Z := by
  unfold negB
  induction Z with
  | nil => rfl
  | cons x Z ih =>
    rw [List.any_cons, List.all_cons, ih, Bool.not_and]
    congr 1
    by_cases h : 0 ≤ x <;> simp [h] <;> omega
theorem gives_col (b B : Nat) (a : Option Addr) (c By : Nat) (Y : List Int) (w : World) (h : w.cell? ⟨b, 0, none⟩ = some (.slice a Y.length c)) (hy : intE.In w By (a, Y.length, c) Y) : GivesL 33 #[.pointer (some ⟨b, 0, none⟩)] (fun x => x == Y) B w := by
  intro l la lc w' hl hll hc
  have c0 := hc.cellS h (fun h => h)
  have HY := Lib.hid (hy.same hc)
  have HL := Lib.hid hl
  have hd : decide (l = Y) = (l == Y) := by by_cases e : l = Y <;> simp [e]
  clear h hy hl
  show Calls Try.prog 33 #[.slice la l.length lc, .pointer (some ⟨b, 0, none⟩)] w' _
  have HD := Lib.hid hd
  clear hd
  go_enter Try.func33, Try.ntmps33
  go_wp2_with fail
  refine (equalInt_any l Y la a lc c B By w' HL.out HY.out hll).mono ?_
  rintro e w2 ⟨rfl, hc2⟩
  obtain ⟨r, hr⟩ : ∃ r, decide (l = Y) = r := ⟨_, rfl⟩
  have HR : Hid ((l == Y) = r) := Lib.hid (HD.out.symm.trans hr)
  have HC2 := Lib.hid hc2
  rw [hr]
  clear hc2 hr HD
  go_wp2
  go_ret
  exact ⟨by rw [HR.out]; rfl, HC2.out⟩
end Go.Proofs.Ytodohgckncnipaa
/- A region that draws: two lists appended to, each by a slice that is built in the region, the second one's at any time. -/
namespace Go.Proofs.Ytodohgckncnipaa
section
variable {P : Program} {ops : Array Oper} {Q : Exit → Act → World → Prop} {md : Region.Mode} {S : World → Prop} {late : Nat → Bool}

def onlyB (l s : List Nat) : Bool := !l.isEmpty && l.all fun k => s.contains k
theorem late_step {s : List Nat} {fuel : Nat} {listed : Array Bool} {a : Act} {w : World} (hr : onlyB (Region.ready md ops listed) s = true)
    (h : ∀ i ∈ s, wpOp P ops Q i (fun a' w' => (late i = false → S w') ∧ wpAnyL P md ops Q S late fuel (listed.setIfInBounds i true) a' w') a w) : wpAnyL P md ops Q S late (fuel + 1) listed a w := by
  simp only [onlyB, Bool.and_eq_true, Bool.not_eq_true', List.isEmpty_eq_false_iff, List.all_eq_true] at hr
  exact ⟨fun h0 => absurd h0 hr.1, fun i hi => h i (by simpa using hr.2 i hi)⟩
theorem wpOp_turns {i : Nat} {oi : Oper} {a : Act} {w w'' : World} {v : Value} {K : Act → World → Prop} (hi : ops[i]? = some oi) (hg : oi.guard = none)
    (hrun : (execOp a.eval oi).run P w = .ok (.value v) w'') (h : K (a.put oi.dst v) w'') : wpOp P ops Q i K a w := by
  have hw : Region.wanted oi (yielded ops a.tmps) = true := by unfold Region.wanted; rw [hg]
  unfold Go.wpOp
  simp only [hi, hw, if_true, Oper.wp, hrun, Oper.upon]
  exact .inl h

def readB (md : Region.Mode) (ops : Array Oper) (late : Nat → Bool) (listed : Array Bool) (f : Nat) : Bool :=
  Region.noSelect ops && Region.free md ops listed f && (Region.ready md ops listed).contains f && lateB md ops late f && closedB md ops listed
def twoB (md : Region.Mode) (ops : Array Oper) (late : Nat → Bool) (L : Array Bool) (i1 i2 f j1 j2 : Nat) : Bool :=
  Region.noSelect ops && decide (i1 ≠ j1) && decide (i2 ≠ j1) && decide (f ≠ j1) &&
  onlyB (Region.ready md ops L) [i1, j1] && onlyB (Region.ready md ops (L.setIfInBounds i1 true)) [i2, j1] && onlyB (Region.ready md ops (L.setIfInBounds j1 true)) [i1] &&
  onlyB (Region.ready md ops ((L.setIfInBounds i1 true).setIfInBounds j1 true)) [i2] && readB md ops late ((L.setIfInBounds i1 true).setIfInBounds i2 true) f && readB md ops late (((L.setIfInBounds i1 true).setIfInBounds j1 true).setIfInBounds i2 true) f &&
  onlyB (Region.ready md ops (((L.setIfInBounds i1 true).setIfInBounds i2 true).setIfInBounds f true)) [j1] && onlyB (Region.ready md ops ((((L.setIfInBounds i1 true).setIfInBounds i2 true).setIfInBounds f true).setIfInBounds j1 true)) [j2]

theorem late_two (i1 i2 f j1 j2 : Nat) {o1 o2 of p1 p2 : Oper} {n : Nat} {L : Array Bool} {a : Act} {w : World} (hr : twoB md ops late L i1 i2 f j1 j2 = true)
    (hi1 : ops[i1]? = some o1) (hi2 : ops[i2]? = some o2) (hf : ops[f]? = some of) (hj1 : ops[j1]? = some p1) (hj2 : ops[j2]? = some p2) (g1 : o1.guard = none) (g2 : o2.guard = none) (gf : of.guard = none) (g3 : p1.guard = none) (g4 : p2.guard = none)
    (hap0 : (o1.apart ops of && o2.apart ops of) = true) (hap : (o1.apart ops p1 && o2.apart ops p1 && of.apart ops p1 && o1.apart ops p2 && o2.apart ops p2 && of.apart ops p2) = true) (hQ : ∀ v c a w, Q (.panic c) (a.put of.dst v) w → Q (.panic c) a w)
    (q1 q2 : Nat → Value) (X1 X2 : Obj) (vf : Value) (Φ0 : World → Prop) (Φ1 : Value → World → Prop) (Φ2 : Value → Value → World → Prop) (H1 H2 : Nat → World → Prop)
    (hΦ0 : Φ0 w)
    (b1 : ∀ w', (execOp a.eval o1).run P w' = .ok (.value (q1 w'.heap.size)) (w'.alloc X1)) (b2 : ∀ w', (execOp a.eval p1).run P w' = .ok (.value (q2 w'.heap.size)) (w'.alloc X2))
    (bf : ∀ w', (execOp a.eval of).run P w' = .ok (.value vf) w')
    (s01 : ∀ w', Φ0 w' → Φ0 (w'.alloc X1) ∧ H1 w'.heap.size (w'.alloc X1)) (s02 : ∀ w', Φ0 w' → Φ0 (w'.alloc X2) ∧ H2 w'.heap.size (w'.alloc X2)) (s12 : ∀ v w', Φ1 v w' → Φ1 v (w'.alloc X2) ∧ H2 w'.heap.size (w'.alloc X2))
    (k1 : ∀ h w', H1 h w' → H1 h (w'.alloc X2)) (k2 : ∀ h w', H2 h w' → H2 h (w'.alloc X1))
    (a1 : ∀ h w', Φ0 w' → H1 h w' → ∃ v w'', (execOp (a.put o1.dst (q1 h)).eval o2).run P w' = .ok (.value v) w'' ∧ Φ1 v w'' ∧ ∀ h2, H2 h2 w' → H2 h2 w'')
    (a2 : ∀ v h w', Φ1 v w' → H2 h w' → ∃ u w'', (execOp (a.put p1.dst (q2 h)).eval p2).run P w' = .ok (.value u) w'' ∧ Φ2 v u w'')
    (f0 : ∀ w', Φ0 w' → S w') (f1 : ∀ v w', Φ1 v w' → S w') (f2 : ∀ v u w', Φ2 v u w' → S w')
    (fin : ∀ v1 v2 v u w'', Φ2 v u w'' → ∀ K : Act → Prop, (∀ a, wpAnyL P md ops Q S late n (((((L.setIfInBounds i1 true).setIfInBounds i2 true).setIfInBounds f true).setIfInBounds j1 true).setIfInBounds j2 true) a w'' → K a) → K (((((a.put o1.dst v1).put o2.dst v).put of.dst vf).put p1.dst v2).put p2.dst u)) :
    wpAnyL P md ops Q S late (n + 5) L a w := by
  simp only [twoB, Bool.and_eq_true, decide_eq_true_eq] at hr
  obtain ⟨⟨⟨⟨⟨⟨⟨⟨⟨⟨⟨hs, hij⟩, hij2⟩, hfj⟩, r0⟩, r1⟩, rj⟩, r1j⟩, rf⟩, rjf⟩, r12⟩, re⟩ := hr
  simp only [Bool.and_eq_true] at hap
  obtain ⟨⟨⟨⟨⟨p11, p21⟩, pf1⟩, p12⟩, p22⟩, pf2⟩ := hap
  simp only [Bool.and_eq_true] at hap0
  obtain ⟨U1, -, -⟩ := Oper.apart_spec hap0.1
  obtain ⟨V1, -, -⟩ := Oper.apart_spec hap0.2
  obtain ⟨A1, A2, A3⟩ := Oper.apart_spec p11
  obtain ⟨B1, B2, B3⟩ := Oper.apart_spec p21
  obtain ⟨C1, C2, C3⟩ := Oper.apart_spec p12
  obtain ⟨D1, D2, D3⟩ := Oper.apart_spec p22
  obtain ⟨E1, E2, E3⟩ := Oper.apart_spec pf1
  obtain ⟨F1, F2, F3⟩ := Oper.apart_spec pf2
  have hsel := Region.noSelect_spec hs
  have hwf : ∀ a' : Act, Region.wanted of (yielded ops a'.tmps) = true := fun a' => by unfold Region.wanted; rw [gf]
  -- the last append
  have last : ∀ v1 v h2 w', Φ1 v w' → H2 h2 w' → wpAnyL P md ops Q S late (n + 1) ((((L.setIfInBounds i1 true).setIfInBounds i2 true).setIfInBounds f true).setIfInBounds j1 true) ((((a.put o1.dst v1).put o2.dst v).put of.dst vf).put p1.dst (q2 h2)) w' := by
    intro v1 v h2 w' hp hh
    refine late_step re (fun i hi => ?_)
    obtain rfl : i = j2 := by simpa using hi
    obtain ⟨u, w'', hrun, hq⟩ := a2 v h2 w' hp hh
    refine wpOp_turns (w'' := w'') (v := u) hj2 g4 ?_ ⟨fun _ => f2 v u w'' hq, fin v1 _ v u w'' hq _ (fun _ h => h)⟩
    rw [Act.put_comm _ vf (q2 h2) E2, Act.put_comm _ v (q2 h2) B2, Act.put_comm a v1 (q2 h2) A2, execOp_put (ops := ops) p2 (fun cs b => hsel i p2 cs b hj2) _ of.dst vf F1, execOp_put (ops := ops) p2 (fun cs b => hsel i p2 cs b hj2) _ o2.dst v D1, execOp_put (ops := ops) p2 (fun cs b => hsel i p2 cs b hj2) _ o1.dst v1 C1]
    exact hrun
  -- the first append, the second slice built
  have mid : ∀ h1 h2 w', Φ0 w' → H1 h1 w' → H2 h2 w' → wpAnyL P md ops Q S late (n + 3) ((L.setIfInBounds i1 true).setIfInBounds j1 true) ((a.put o1.dst (q1 h1)).put p1.dst (q2 h2)) w' := by
    intro h1 h2 w' hp hh1 hh2
    refine late_step r1j (fun i hi => ?_)
    obtain rfl : i = i2 := by simpa using hi
    obtain ⟨v, w'', hrun, hq, hk⟩ := a1 h1 w' hp hh1
    refine wpOp_turns (w'' := w'') (v := v) hi2 g2 ?_ ⟨fun _ => f1 v w'' hq, ?_⟩
    · rw [execOp_put (ops := ops) o2 (fun cs b => hsel i o2 cs b hi2) _ p1.dst (q2 h2) B3]
      exact hrun
    · refine late_read (i := f) hf rjf hQ (hwf _) (f1 v w'' hq) (fun K hK => ⟨vf, fun w1 _ => ?_, hK _ ?_⟩)
      · rw [execOp_put (ops := ops) of (fun cs b => hsel f of cs b hf) _ o2.dst v V1, execOp_put (ops := ops) of (fun cs b => hsel f of cs b hf) _ p1.dst (q2 h2) E3, execOp_put (ops := ops) of (fun cs b => hsel f of cs b hf) _ o1.dst (q1 h1) U1]
        exact bf w1
      · rw [Array.setIfInBounds_comm (i := j1) (j := i) _ _ (Ne.symm hij2), Array.setIfInBounds_comm (i := j1) (j := f) _ _ (Ne.symm hfj), ← Act.put_comm _ v (q2 h2) B2, ← Act.put_comm _ vf (q2 h2) E2]
        exact last _ v h2 w'' hq (hk h2 hh2)
  refine late_step r0 (fun i hi => ?_)
  rcases (by simpa using hi : i = i1 ∨ i = j1) with rfl | rfl
  · obtain ⟨t0, t1⟩ := s01 w hΦ0
    refine wpOp_turns (w'' := w.alloc X1) (v := q1 w.heap.size) hi1 g1 (b1 w) ⟨fun _ => f0 _ t0, ?_⟩
    refine late_step r1 (fun j hj => ?_)
    rcases (by simpa using hj : j = i2 ∨ j = j1) with rfl | rfl
    · obtain ⟨v, w'', hrun, hq, hk⟩ := a1 w.heap.size _ t0 t1
      refine wpOp_turns (w'' := w'') (v := v) hi2 g2 hrun ⟨fun _ => f1 v w'' hq, ?_⟩
      refine late_read (i := f) hf rf hQ (hwf _) (f1 v w'' hq) (fun K hK => ⟨vf, fun w1 _ => by rw [execOp_put (ops := ops) of (fun cs b => hsel f of cs b hf) _ o2.dst v V1, execOp_put (ops := ops) of (fun cs b => hsel f of cs b hf) _ o1.dst _ U1]; exact bf w1, hK _ ?_⟩)
      refine late_step r12 (fun k hk => ?_)
      obtain rfl : k = j1 := by simpa using hk
      obtain ⟨u0, u1⟩ := s12 v w'' hq
      refine wpOp_turns (w'' := w''.alloc X2) (v := q2 w''.heap.size) hj1 g3 ?_ ⟨fun _ => f1 v _ u0, last _ v _ _ u0 u1⟩
      rw [execOp_put (ops := ops) p1 (fun cs b => hsel k p1 cs b hj1) _ of.dst vf E1, execOp_put (ops := ops) p1 (fun cs b => hsel k p1 cs b hj1) _ o2.dst v B1, execOp_put (ops := ops) p1 (fun cs b => hsel k p1 cs b hj1) _ o1.dst _ A1]
      exact b2 w''
    · obtain ⟨u0, u1⟩ := s02 (w.alloc X1) t0
      refine wpOp_turns (w'' := (w.alloc X1).alloc X2) (v := q2 (w.alloc X1).heap.size) hj1 g3 ?_ ⟨fun _ => f0 _ u0, mid _ _ _ u0 (k1 _ _ t1) u1⟩
      rw [execOp_put (ops := ops) p1 (fun cs b => hsel j p1 cs b hj1) _ o1.dst _ A1]
      exact b2 _
  · obtain ⟨t0, t1⟩ := s02 w hΦ0
    refine wpOp_turns (w'' := w.alloc X2) (v := q2 w.heap.size) hj1 g3 (b2 w) ⟨fun _ => f0 _ t0, ?_⟩
    refine late_step rj (fun j hj => ?_)
    obtain rfl : j = i1 := by simpa using hj
    obtain ⟨u0, u1⟩ := s01 (w.alloc X2) t0
    refine wpOp_turns (w'' := (w.alloc X2).alloc X1) (v := q1 (w.alloc X2).heap.size) hi1 g1 ?_ ⟨fun _ => f0 _ u0, ?_⟩
    · rw [execOp_put (ops := ops) o1 (fun cs b => hsel j o1 cs b hi1) _ p1.dst _ A3]
      exact b1 _
    · rw [Array.setIfInBounds_comm _ _ (Ne.symm hij), ← Act.put_comm a (q1 (w.alloc X2).heap.size) (q2 w.heap.size) A2]
      exact mid _ _ _ u0 u1 (k2 _ _ t1)
end
end Go.Proofs.Ytodohgckncnipaa
/- Two lists of one's own appended to in one statement. -/
namespace Go.Proofs.Ytodohgckncnipaa
open Go.RowKit

theorem eval_put_same {a : Act} {d : Tmp} {v : Value} (h : d < a.tmps.size) : (a.put (some d) v).eval (.tmp d) = v := by
  simp [Act.eval, Act.put, h]
theorem eval_put_ne {a : Act} {d : Tmp} {v : Value} {s : Operand} (h : s ≠ .tmp d) : (a.put (some d) v).eval s = a.eval s :=
  Act.eval_put fun e he => by
    obtain rfl := Option.some.inj he
    exact h
/-- What is left behind two appends. -/
structure Two2 {α β : Type} (E : Elt α) (F : Elt β) (w : World) (B : Nat) (vr vk : Value) (X : List α) (Y : List β) (v u : Value) (w' : World) : Prop where
  a : E.Own w' B v X
  b : F.Own w' B u Y
  c : Chg (fun k => vr.ownBlock = some k ∨ vk.ownBlock = some k) w w'
  va : ∀ g, v.ownBlock = some g → vr.ownBlock = some g ∨ w.heap.size ≤ g
  ub : ∀ g, u.ownBlock = some g → vk.ownBlock = some g ∨ w.heap.size ≤ g
  ne : ∀ g, v.ownBlock = some g → ¬ u.ownBlock = some g
section
variable {α β : Type} {ops : Array Oper} {Q : Exit → Act → World → Prop} {md : Region.Mode} {S : World → Prop} {late : Nat → Bool}
theorem append_exec (E : Elt α) {o : Oper} {a : Act} {w w' : World} {s x : Operand} (ho : o.op = .call { callee := .builtin .append, args := #[s, x], argTypes := #[E.sl, E.sl] }) {v u v' : Value} (hv : a.eval s = v) (hu : a.eval x = u)
    (hrun : (Builtin.append_ #[E.sl, E.sl] o.type #[v, u]).run Try.prog w = .ok v' w') : (execOp a.eval o).run Try.prog w = .ok (.value v') w' := by
  simp [execOp, ho, resolve, invoke, builtin, hv, hu, hrun, Result.andThen]
theorem late_two_own (E : Elt α) (F : Elt β) (i1 i2 f j1 j2 : Nat) {o1 o2 of p1 p2 : Oper} {n : Nat} {L : Array Bool} {a : Act} {w : World} (hr : twoB md ops late L i1 i2 f j1 j2 = true)
    (hi1 : ops[i1]? = some o1) (hi2 : ops[i2]? = some o2) (hf : ops[f]? = some of) (hj1 : ops[j1]? = some p1) (hj2 : ops[j2]? = some p2) (g1 : o1.guard = none) (g2 : o2.guard = none) (gf : of.guard = none) (g3 : p1.guard = none) (g4 : p2.guard = none)
    (hap0 : (o1.apart ops of && o2.apart ops of) = true) (hap : (o1.apart ops p1 && o2.apart ops p1 && of.apart ops p1 && o1.apart ops p2 && o2.apart ops p2 && of.apart ops p2) = true) (hQ : ∀ v c a w, Q (.panic c) (a.put of.dst v) w → Q (.panic c) a w)
    (d1 d2 : Tmp) (s1 s2 : Operand) (hd1 : o1.dst = some d1) (hd2 : p1.dst = some d2) (ho2 : o2.op = .call { callee := .builtin .append, args := #[s1, .tmp d1], argTypes := #[E.sl, E.sl] }) (hp2 : p2.op = .call { callee := .builtin .append, args := #[s2, .tmp d2], argTypes := #[F.sl, F.sl] })
    (hs1 : s1 ≠ .tmp d1) (hs2 : s2 ≠ .tmp d2) (hz1 : d1 < a.tmps.size) (hz2 : d2 < a.tmps.size) (vr vk : Value) (hv1 : a.eval s1 = vr) (hv2 : a.eval s2 = vk)
    (x : α) (y : β) (hx : E.ok x) (hy : F.ok y) (e1 e2 : TypeId) (X : List α) (Y : List β) (τ : Nat → Nat) (k1 k2 B : Nat) (hk : k1 ≠ k2) (hB : B ≤ w.heap.size)
    (hR : TOwn E w B τ k1 vr X) (hK : TOwn F w B τ k2 vk Y) (hXl : X.length ≤ 10000000000) (hYl : Y.length ≤ 10000000000)
    (b1 : ∀ w', (execOp a.eval o1).run Try.prog w' = .ok (.value (.slice (some ⟨w'.heap.size, 0, none⟩) 1 1)) (w'.alloc (.cells (E.encs [x]).toArray e1)))
    (b2 : ∀ w', (execOp a.eval p1).run Try.prog w' = .ok (.value (.slice (some ⟨w'.heap.size, 0, none⟩) 1 1)) (w'.alloc (.cells (F.encs [y]).toArray e2)))
    (vf : Value) (bf : ∀ w', (execOp a.eval of).run Try.prog w' = .ok (.value vf) w')
    (hS : ∀ w', Chg (fun k => vr.ownBlock = some k ∨ vk.ownBlock = some k) w w' → S w')
    (fin : ∀ v1 v2 v u w'', Two2 E F w B vr vk (X ++ [x]) (Y ++ [y]) v u w'' → ∀ K : Act → Prop, (∀ a, wpAnyL Try.prog md ops Q S late n (((((L.setIfInBounds i1 true).setIfInBounds i2 true).setIfInBounds f true).setIfInBounds j1 true).setIfInBounds j2 true) a w'' → K a) → K (((((a.put o1.dst v1).put o2.dst v).put of.dst vf).put p1.dst v2).put p2.dst u)) :
    wpAnyL Try.prog md ops Q S late (n + 5) L a w := by
  have hrb : ∀ g, vr.ownBlock = some g → g < w.heap.size := fun g hg => (hR.own.blk hg).2
  have hkb : ∀ g, vk.ownBlock = some g → g < w.heap.size := fun g hg => (hK.own.blk hg).2
  have hrk : ∀ g, vr.ownBlock = some g → ¬ vk.ownBlock = some g := fun g h1 h2 => hk ((hR.tag g h1).symm.trans (hK.tag g h2))
  have al : ∀ (w' : World) (o : Obj), Chg (fun _ => False) w' (w'.alloc o) := fun w' o => (Chg.refl _ _).alloc o
  refine late_two (P := Try.prog) i1 i2 f j1 j2 hr hi1 hi2 hf hj1 hj2 g1 g2 gf g3 g4 hap0 hap hQ (fun h => .slice (some ⟨h, 0, none⟩) 1 1) (fun h => .slice (some ⟨h, 0, none⟩) 1 1) (.cells (E.encs [x]).toArray e1) (.cells (F.encs [y]).toArray e2) vf
    (fun w' => Chg (fun _ => False) w w') (fun v w' => E.Own w' B v (X ++ [x]) ∧ Chg (fun k => vr.ownBlock = some k) w w' ∧ (∀ g, v.ownBlock = some g → vr.ownBlock = some g ∨ w.heap.size ≤ g)) (fun v u w' => Two2 E F w B vr vk (X ++ [x]) (Y ++ [y]) v u w')
    (fun h w' => E.Row w' h [x] ∧ w.heap.size ≤ h) (fun h w' => F.Row w' h [y] ∧ w.heap.size ≤ h) (Chg.refl _ _) b1 b2 bf ?_ ?_ ?_ ?_ ?_ ?_ ?_ ?_ ?_ ?_ fin
  · exact fun w' h => ⟨h.trans (al _ _), Elt.Row.alloc w' [x] e1 (fun z hz => by rw [List.mem_singleton] at hz; subst hz; exact hx), h.size⟩
  · exact fun w' h => ⟨h.trans (al _ _), Elt.Row.alloc w' [y] e2 (fun z hz => by rw [List.mem_singleton] at hz; subst hz; exact hy), h.size⟩
  · rintro v w' ⟨h1, h2, h3⟩
    exact ⟨⟨h1.chg (al _ _) (fun _ _ _ h => h), h2.trans (al _ _).any, h3⟩, Elt.Row.alloc w' [y] e2 (fun z hz => by rw [List.mem_singleton] at hz; subst hz; exact hy), h2.size⟩
  · exact fun h w' ⟨k1, k2⟩ => ⟨k1.chg (al _ _) (fun h => h), k2⟩
  · exact fun h w' ⟨k1, k2⟩ => ⟨k1.chg (al _ _) (fun h => h), k2⟩
  · rintro h w' hc ⟨m1, m2⟩
    obtain ⟨v', w'', hrun, q1, q2, ⟨q3, q4⟩, -⟩ := (hR.own.chg hc (fun _ _ _ h => h)).append (Nat.le_trans hB hc.size) E.sl (.slice (some ⟨h, 0, none⟩) 1 1) [x] ((m1.at' (List.prefix_refl _)).src (fun _ => rfl)) (fun z hz => by rw [List.mem_singleton] at hz; subst hz; exact hx) (by simp; omega) o2.type
    refine ⟨v', w'', ?_, ⟨q1, hc.any.trans q3, fun g hg => ?_⟩, fun h2 ⟨r1, r2⟩ => ⟨r1.chg q3 (fun e => ?_), r2⟩⟩
    · rw [hd1]
      exact append_exec E ho2 ((eval_put_ne hs1).trans hv1) (eval_put_same hz1) hrun
    · rcases q4 with e | e
      · rw [e] at hg; exact .inl hg
      · rw [e] at hg
        obtain rfl := Option.some.inj hg
        exact .inr hc.size
    · have := hrb _ e; omega
  · rintro v h w' ⟨h1, h2, h3⟩ ⟨m1, m2⟩
    have hk' : F.Own w' B vk Y := hK.own.chgB h2 (fun g hg e => hrk g e hg)
    obtain ⟨u', w'', hrun, q1, q2, ⟨q3, q4⟩, -⟩ := hk'.append (Nat.le_trans hB h2.size) F.sl (.slice (some ⟨h, 0, none⟩) 1 1) [y] ((m1.at' (List.prefix_refl _)).src (fun _ => rfl)) (fun z hz => by rw [List.mem_singleton] at hz; subst hz; exact hy) (by simp; omega) p2.type
    have hvk : ∀ g, v.ownBlock = some g → ¬ vk.ownBlock = some g := fun g hg e => by
      rcases h3 g hg with h | h
      · exact hrk g h e
      · have := hkb g e; omega
    refine ⟨u', w'', ?_, ⟨h1.chgB q3 (fun g hg e => hvk g hg e), q1, (h2.mono (fun _ _ e => .inl e)).trans (q3.mono (fun _ _ e => .inr e)), h3, fun g hg => ?_, fun g hg e => ?_⟩⟩
    · rw [hd2]
      exact append_exec F hp2 ((eval_put_ne hs2).trans hv2) (eval_put_same hz2) hrun
    · rcases q4 with e | e
      · rw [e] at hg; exact .inl hg
      · rw [e] at hg
        obtain rfl := Option.some.inj hg
        exact .inr h2.size
    · rcases q4 with e' | e'
      · rw [e'] at e; exact hvk g hg e
      · rw [e'] at e
        obtain rfl := Option.some.inj e
        have := (h1.blk hg).2
        omega
  · exact fun w' h => hS w' h.any
  · exact fun v w' h => hS w' (h.2.1.mono (fun _ _ e => .inl e))
  · exact fun v u w' h => hS w' h.c
end
end Go.Proofs.Ytodohgckncnipaa
/- Columns, ranges, classes of the least table as they are made. -/
namespace Go.Proofs.Ytodohgckncnipaa
open Go.RowKit

/-- So far as to range k. -/
def zK (t : TabD) (o : List Nat) (k : Nat) : ColZ := ((t.r.zip t.c).take k).foldl (fun z x => foldCol z x.1 (colT t o x.2)) ([], [], [])
theorem zK_zero (t : TabD) (o : List Nat) : zK t o 0 = ([], [], []) := rfl
theorem zK_step {t : TabD} {o : List Nat} {k : Nat} {r : Int × Int} {c : Int} (hr : t.r[k]? = some r) (hc : t.c[k]? = some c) : zK t o (k + 1) = foldCol (zK t o k) r (colT t o c) := by
  unfold zK
  have h : (t.r.zip t.c)[k]? = some (r, c) := by rw [List.getElem?_zip_eq_some]; exact ⟨hr, hc⟩
  rw [List.take_add_one, h]
  simp
theorem zK_all {t : TabD} (h : t.c.length = t.r.length) (o : List Nat) : zK t o t.r.length = leastZ t o := by
  unfold zK leastZ
  rw [List.take_of_length_le (by rw [List.length_zip]; omega)]
theorem mrg_le (R : List (Int × Int)) (C : List Int) (r : Int × Int) (c : Int) : (mrg R C r c).1.length ≤ R.length + 1 ∧ (mrg R C r c).2.length ≤ C.length + 1 := by
  unfold mrg
  split
  · simp
  · simp
theorem foldCol_facts {z : ColZ} {n k : Nat} (h : z.2.2.length = z.2.1.length ∧ z.1.length ≤ k ∧ z.2.1.length ≤ k ∧ ∀ col ∈ z.1, col.length = n) {r : Int × Int} {col : List Int} (hc : col.length = n) :
    (foldCol z r col).2.2.length = (foldCol z r col).2.1.length ∧ (foldCol z r col).1.length ≤ k + 1 ∧ (foldCol z r col).2.1.length ≤ k + 1 ∧ ∀ x ∈ (foldCol z r col).1, x.length = n := by
  refine ⟨foldCol_len h.1 r col, ?_⟩
  unfold foldCol
  split
  · exact ⟨by omega, by omega, h.2.2.2⟩
  · split
    · have := (mrg_le z.2.1 z.2.2 r z.1.length).1
      refine ⟨by simp; omega, by simp only; omega, fun x hx => ?_⟩
      rcases List.mem_append.1 hx with hx | hx
      · exact h.2.2.2 x hx
      · rw [List.mem_singleton] at hx; rw [hx]; exact hc
    · have := (mrg_le z.2.1 z.2.2 r (idxV (fun x => x == col) z.1)).1
      exact ⟨by simp only; omega, by simp only; omega, h.2.2.2⟩
theorem colT_len (t : TabD) (o : List Nat) (c : Int) : (colT t o c).length = o.length := by unfold colT; simp
theorem zK_facts {t : TabD} (h : t.c.length = t.r.length) (o : List Nat) : ∀ k, k ≤ t.r.length → (zK t o k).2.2.length = (zK t o k).2.1.length ∧ (zK t o k).1.length ≤ k ∧ (zK t o k).2.1.length ≤ k ∧ ∀ col ∈ (zK t o k).1, col.length = o.length
  | 0, _ => ⟨rfl, Nat.le_refl _, Nat.le_refl _, fun c hc => by cases hc⟩
  | k + 1, hk => by
    have hr : t.r[k]? = some (t.r[k]'(by omega)) := List.getElem?_eq_getElem _
    have hc : t.c[k]? = some (t.c[k]'(by omega)) := List.getElem?_eq_getElem _
    rw [zK_step hr hc]
    exact foldCol_facts (zK_facts h o k (by omega)) (colT_len t o _)
/-- The classes stay below the columns' number. -/
theorem mrg_mem {R : List (Int × Int)} {C : List Int} {r : Int × Int} {c x : Int} (h : x ∈ (mrg R C r c).2) : x ∈ C ∨ x = c := by
  unfold mrg at h
  split at h
  · exact .inl h
  · simp only [List.mem_append, List.mem_singleton] at h; exact h
theorem zK_cls {t : TabD} (h : t.c.length = t.r.length) (o : List Nat) : ∀ k, k ≤ t.r.length → ∀ c ∈ (zK t o k).2.2, 0 ≤ c ∧ c < (zK t o k).1.length
  | 0, _, c, hc => by cases hc
  | k + 1, hk, c, hcm => by
    have ih := zK_cls h o k (by omega)
    have hr : t.r[k]? = some (t.r[k]'(by omega)) := List.getElem?_eq_getElem _
    have hc : t.c[k]? = some (t.c[k]'(by omega)) := List.getElem?_eq_getElem _
    rw [zK_step hr hc] at hcm ⊢
    unfold foldCol at hcm ⊢
    split at hcm
    · rename_i hn
      rw [if_pos hn]
      exact ih c hcm
    · rename_i hn
      rw [if_neg hn]
      split at hcm
      · rename_i hi
        rw [if_pos hi]
        rcases mrg_mem hcm with hm | rfl
        · have := ih c hm; simp; omega
        · simp; omega
      · rename_i hi
        rw [if_neg hi]
        rcases mrg_mem hcm with hm | rfl
        · exact ih c hm
        · have := idxV_bounds (fun x => x == colT t o (t.c[k]'(by omega))) (zK t o k).1
          simp only
          omega

/-- A column, row by row. -/
theorem colT_take {t : TabD} {o : List Nat} {c : Int} {j s : Nat} (h : o[j]? = some s) : (colT t o c).take (j + 1) = (colT t o c).take j ++ [entT t o (goN t s c.toNat)] := by
  unfold colT
  rw [List.take_add_one, List.getElem?_map, h]
  rfl
theorem negB_app (X : List Int) (x : Int) : negB (X ++ [x]) = (negB X && decide (x < 0)) := by unfold negB; simp

/-- The table that is being made. -/
structure Ph2 (w : World) (B bo : Nat) (τ : Nat → Nat) (z : ColZ) (vc vr vk : Value) : Prop where
  cols : LTOwn w B τ 0 1 vc z.1
  r : TOwn rngE w B τ 2 vr z.2.1
  k : TOwn intE w B τ 3 vk z.2.2
  c0 : w.cell? ⟨bo, 0, none⟩ = some vr
  c1 : w.cell? ⟨bo, 1, none⟩ = some vk
  c2 : w.cell? ⟨bo, 2, none⟩ = some (.slice none 0 0)
  c3 : w.cell? ⟨bo, 3, none⟩ = some (.slice none 0 0)
  zz : ∀ j, w.frozen? ⟨bo, j, none⟩ = false
  hb : bo < B
theorem Ph2.lt {w : World} {B bo : Nat} {τ : Nat → Nat} {z : ColZ} {vc vr vk : Value} (h : Ph2 w B bo τ z vc vr vk) : bo < w.heap.size := World.block_lt_of_cell? _ _ h.c0
theorem Ph2.same {w w' : World} {B bo : Nat} {τ : Nat → Nat} {z : ColZ} {vc vr vk : Value} (h : Ph2 w B bo τ z vc vr vk) (hc : Chg (fun _ => False) w w') : Ph2 w' B bo τ z vc vr vk :=
  ⟨h.cols.same hc, h.r.same hc, h.k.same hc, hc.cellS h.c0 (fun h => h), hc.cellS h.c1 (fun h => h), hc.cellS h.c2 (fun h => h), hc.cellS h.c3 (fun h => h), fun j => (hc.frozen (p := ⟨bo, j, none⟩) h.lt (fun h => h)).trans (h.zz j), h.hb⟩
theorem Ph2.z {w : World} {B bo : Nat} {τ : Nat → Nat} {z z' : ColZ} {vc vr vk : Value} (h : Ph2 w B bo τ z vc vr vk) (e : z' = z) : Ph2 w B bo τ z' vc vr vk := e ▸ h
theorem Ph2.mark {w : World} {B bo : Nat} {τ τ' : Nat → Nat} {z : ColZ} {vc vr vk : Value} (h : Ph2 w B bo τ z vc vr vk) (ht : ∀ g, B ≤ g → g < w.heap.size → τ' g = τ g) : Ph2 w B bo τ' z vc vr vk :=
  ⟨h.cols.mark ht, h.r.mark ht, h.k.mark ht, h.c0, h.c1, h.c2, h.c3, h.zz, h.hb⟩
/-- A column more. -/
theorem Ph2.col {w w' : World} {B bo : Nat} {τ : Nat → Nat} {z : ColZ} {vc vr vk vc' : Value} {X : List Sl} {y : Sl} {l : List Int} (h : Ph2 w B bo τ z vc vr vk) (h1 : TOwn listE w B τ 0 vc X) (h2 : X.length = z.1.length) (h3 : ∀ (j : Nat) y l, X[j]? = some y → z.1[j]? = some l → TOwn intE w B τ 1 (slV y) l)
    (hy : TOwn intE w B τ 1 (slV y) l) (ho : listE.Own w' B vc' (X ++ [y])) (hc : Chg (fun x => vc.ownBlock = some x) w w') (hv : vc'.ownBlock = vc.ownBlock ∨ vc'.ownBlock = some w.heap.size) : Ph2 w' B bo (upd τ w.heap.size 0) (z.1 ++ [l], z.2) vc' vr vk := by
  have hbo : ¬ vc.ownBlock = some bo := fun e => by have := (h1.own.blk e).1; have := h.hb; omega
  exact ⟨LTOwn.app (by decide) h1 h2 h3 hy ho hc hv, h1.keep h.r (by decide) hc, h1.keep h.k (by decide) hc, hc.cellS h.c0 hbo, hc.cellS h.c1 hbo, hc.cellS h.c2 hbo, hc.cellS h.c3 hbo, fun j => (hc.frozen (p := ⟨bo, j, none⟩) h.lt hbo).trans (h.zz j), h.hb⟩
/-- A range more. -/
theorem Ph2.rng {w w' : World} {B bo : Nat} {τ : Nat → Nat} {z : ColZ} {vc vr vk vr' : Value} {R' : List (Int × Int)} (h : Ph2 w B bo τ z vc vr vk) (ho : rngE.Own w' B vr' R') (hc : Chg (fun x => vr.ownBlock = some x) w w') (hv : vr'.ownBlock = vr.ownBlock ∨ vr'.ownBlock = some w.heap.size) :
    (w'.cell? ⟨bo, 0, none⟩ = some vr ∧ w'.frozen? ⟨bo, 0, none⟩ = false) ∧ Ph2 (w'.setCell ⟨bo, 0, none⟩ vr') B bo (upd τ w.heap.size 2) (z.1, R', z.2.2) vc vr' vk := by
  have hbo : ¬ vr.ownBlock = some bo := fun e => by have := (h.r.own.blk e).1; have := h.hb; omega
  have c0 := hc.cellS h.c0 hbo
  have zz := fun j => (hc.frozen (p := ⟨bo, j, none⟩) h.lt hbo).trans (h.zz j)
  have hs := setCellChg w' bo 0 vr'
  have hb := h.hb
  have oth : ∀ (k : Nat) (u : Value), k ≠ 0 → w.cell? ⟨bo, k, none⟩ = some u → (w'.setCell ⟨bo, 0, none⟩ vr').cell? ⟨bo, k, none⟩ = some u := fun k u hk hu => by
    rw [World.cell?_setCell_other _ _ _ _ (by intro e; injection e with _ e; exact hk e.symm)]
    exact hc.cellS hu hbo
  exact ⟨⟨c0, zz 0⟩, (LTOwn.keep h.r h.cols (by decide) (by decide) hc).chg hs (fun g hg _ e => by omega), (h.r.app ho hv).chg hs (fun g hg _ e => by omega), (h.r.keep h.k (by decide) hc).chg hs (fun g hg _ e => by omega), World.cell?_setCell_same _ _ _ c0, oth 1 _ (by decide) h.c1, oth 2 _ (by decide) h.c2, oth 3 _ (by decide) h.c3, fun j => (World.frozen?_setCell _ _ _ _).trans (zz j), hb⟩
/-- A class more. -/
theorem Ph2.cls {w w' : World} {B bo : Nat} {τ : Nat → Nat} {z : ColZ} {vc vr vk vk' : Value} {C' : List Int} (h : Ph2 w B bo τ z vc vr vk) (ho : intE.Own w' B vk' C') (hc : Chg (fun x => vk.ownBlock = some x) w w') (hv : vk'.ownBlock = vk.ownBlock ∨ vk'.ownBlock = some w.heap.size) :
    (w'.cell? ⟨bo, 1, none⟩ = some vk ∧ w'.frozen? ⟨bo, 1, none⟩ = false) ∧ Ph2 (w'.setCell ⟨bo, 1, none⟩ vk') B bo (upd τ w.heap.size 3) (z.1, z.2.1, C') vc vr vk' := by
  have hbo : ¬ vk.ownBlock = some bo := fun e => by have := (h.k.own.blk e).1; have := h.hb; omega
  have c1 := hc.cellS h.c1 hbo
  have zz := fun j => (hc.frozen (p := ⟨bo, j, none⟩) h.lt hbo).trans (h.zz j)
  have hs := setCellChg w' bo 1 vk'
  have hb := h.hb
  have oth : ∀ (k : Nat) (u : Value), k ≠ 1 → w.cell? ⟨bo, k, none⟩ = some u → (w'.setCell ⟨bo, 1, none⟩ vk').cell? ⟨bo, k, none⟩ = some u := fun k u hk hu => by
    rw [World.cell?_setCell_other _ _ _ _ (by intro e; injection e with _ e; exact hk e.symm)]
    exact hc.cellS hu hbo
  exact ⟨⟨c1, zz 1⟩, (LTOwn.keep h.k h.cols (by decide) (by decide) hc).chg hs (fun g hg _ e => by omega), (h.k.keep h.r (by decide) hc).chg hs (fun g hg _ e => by omega), (h.k.app ho hv).chg hs (fun g hg _ e => by omega), oth 0 _ (by decide) h.c0, World.cell?_setCell_same _ _ _ c1, oth 2 _ (by decide) h.c2, oth 3 _ (by decide) h.c3, fun j => (World.frozen?_setCell _ _ _ _).trans (zz j), hb⟩
theorem rngEncs (C : List (Int × Int)) (j : Nat) : (rngE.encs C)[j]? = (C[j / 2]?).bind fun p => (rngE.enc p)[j % 2]? := by
  induction C generalizing j with
  | nil => simp [Elt.encs]
  | cons p C ih =>
    have e : rngE.encs (p :: C) = rngE.enc p ++ rngE.encs C := rfl
    have hl : (rngE.enc p).length = 2 := rngE.len p
    rw [e]
    by_cases hj : j < 2
    · rw [List.getElem?_append_left (by omega)]
      have h1 : j / 2 = 0 := by omega
      have h2 : j % 2 = j := by omega
      rw [h1, h2]
      rfl
    · rw [List.getElem?_append_right (by omega), hl, ih (j - 2)]
      have h1 : j / 2 = (j - 2) / 2 + 1 := by omega
      have h2 : j % 2 = (j - 2) % 2 := by omega
      rw [h1, h2]
      rfl
/-- A range's end is set. -/
theorem rngRow_high {w : World} {g : Nat} {C : List (Int × Int)} (h : rngE.Row w g C) {k : Nat} {p : Int × Int} (hk : C[k]? = some p) {x : Int} (hx : okRng (p.1, x)) : rngE.Row (w.setCell ⟨g, k * 2 + 1, none⟩ (.int .i32 x)) g (C.set k (p.1, x)) := by
  have hkl := (List.getElem?_eq_some_iff.1 hk).1
  refine ⟨fun j u hj => ?_, fun j => (World.frozen?_setCell _ _ _ _).trans (h.z j), Nat.lt_of_lt_of_le h.lt (setCellChg _ _ _ _).size, fun a ha => ?_⟩
  · by_cases he : j = k * 2 + 1
    · subst he
      have hold : (rngE.encs C)[k * 2 + 1]? = some (.int .i32 p.2) := by
        rw [rngEncs, show (k * 2 + 1) / 2 = k by omega, hk, show (k * 2 + 1) % 2 = 1 by omega]
        rfl
      rw [rngEncs, show (k * 2 + 1) / 2 = k by omega, List.getElem?_set_self hkl, show (k * 2 + 1) % 2 = 1 by omega] at hj
      obtain rfl : Value.int .i32 x = u := Option.some.inj hj
      exact World.cell?_setCell_same _ _ _ (h.c _ _ hold)
    · rw [World.cell?_setCell_other _ _ _ _ (by intro e; injection e with _ e; exact he e.symm)]
      refine h.c j u ?_
      rw [rngEncs] at hj ⊢
      by_cases hjk : j / 2 = k
      · rw [hjk, List.getElem?_set_self hkl] at hj
        rw [hjk, hk]
        have h0 : j % 2 = 0 := by omega
        rw [h0] at hj ⊢
        exact hj
      · rw [List.getElem?_set_ne (Ne.symm hjk)] at hj
        exact hj
  · rcases List.mem_or_eq_of_mem_set ha with h1 | rfl
    · exact h.ok a h1
    · exact hx
theorem Ph2.high {w : World} {B bo : Nat} {τ : Nat → Nat} {z : ColZ} {vc vk : Value} {g n c : Nat} {R' : List (Int × Int)} {p : Int × Int} (h : Ph2 w B bo τ z vc (.slice (some ⟨g, 0, none⟩) n c) vk) (hz : z.2.1 = R' ++ [p]) {x : Int} (hx : okRng (p.1, x)) :
    (w.cell? ⟨g, R'.length * 2 + 1, none⟩ = some (.int .i32 p.2) ∧ w.frozen? ⟨g, R'.length * 2 + 1, none⟩ = false) ∧ Ph2 (w.setCell ⟨g, R'.length * 2 + 1, none⟩ (.int .i32 x)) B bo τ (z.1, R' ++ [(p.1, x)], z.2.2) vc (.slice (some ⟨g, 0, none⟩) n c) vk ∧ Chg (fun k => k = g) w (w.setCell ⟨g, R'.length * 2 + 1, none⟩ (.int .i32 x)) ∧ B ≤ g := by
  have htag := h.r.tag g rfl
  have hs := setCellChg w g (R'.length * 2 + 1) (.int .i32 x)
  rcases h.r.own with ⟨e, _⟩ | ⟨g', C, h1, h2, h3, h4, h5⟩
  · cases e
  · injection h1 with e1 e2 e3
    injection e1 with e1
    injection e1 with e1
    subst e1 e2 e3
    have hb := h.hb
    have hbo : ¬ bo = g := by omega
    rw [hz] at h4
    obtain ⟨Y, rfl⟩ := h4
    have hk : (R' ++ [p] ++ Y)[R'.length]? = some p := by rw [List.append_assoc, List.getElem?_append_right (Nat.le_refl _)]; simp
    have hrow := rngRow_high h3 hk hx
    have hset : (R' ++ [p] ++ Y).set R'.length (p.1, x) = R' ++ [(p.1, x)] ++ Y := by
      rw [List.append_assoc, List.set_append_right _ _ (Nat.le_refl _), List.append_assoc]
      simp
    rw [hset] at hrow
    have hcell : w.cell? ⟨g, R'.length * 2 + 1, none⟩ = some (.int .i32 p.2) := h3.cell hk (i := 1) rfl rfl
    refine ⟨⟨hcell, h3.z _⟩, ⟨h.cols.chg hs (fun g' hg' ht e => ?_), ⟨.inr ⟨g, R' ++ [(p.1, x)] ++ Y, ?_, h2, hrow, List.prefix_append _ _, ?_⟩, h.r.tag⟩, h.k.chg hs (fun g' hg' ht e => ?_), hs.cellS h.c0 hbo, hs.cellS h.c1 hbo, hs.cellS h.c2 hbo, hs.cellS h.c3 hbo, fun j => (World.frozen?_setCell _ _ _ _).trans (h.zz j), hb⟩, hs, h2⟩
    · have e : g' = g := e
      subst e
      omega
    · rw [hz]; simp
    · simp only [List.length_append, List.length_singleton] at h5 ⊢; omega
    · have e : g' = g := e
      subst e
      omega
end Go.Proofs.Ytodohgckncnipaa
/- Rows and ends of the least table as they are made. -/
namespace Go.Proofs.Ytodohgckncnipaa
open Go.RowKit

structure Ph3 (w : World) (B bo : Nat) (τ : Nat → Nat) (N : List (List Int)) (E : List Int) (vr vk vn ve : Value) : Prop where
  n : LTOwn w B τ 0 1 vn N
  e : TOwn intE w B τ 2 ve E
  c0 : w.cell? ⟨bo, 0, none⟩ = some vr
  c1 : w.cell? ⟨bo, 1, none⟩ = some vk
  c2 : w.cell? ⟨bo, 2, none⟩ = some vn
  c3 : w.cell? ⟨bo, 3, none⟩ = some ve
  zz : ∀ j, w.frozen? ⟨bo, j, none⟩ = false
  hb : bo < B
theorem Ph3.lt {w : World} {B bo : Nat} {τ : Nat → Nat} {N : List (List Int)} {E : List Int} {vr vk vn ve : Value} (h : Ph3 w B bo τ N E vr vk vn ve) : bo < w.heap.size := World.block_lt_of_cell? _ _ h.c0
theorem Ph3.same {w w' : World} {B bo : Nat} {τ : Nat → Nat} {N : List (List Int)} {E : List Int} {vr vk vn ve : Value} (h : Ph3 w B bo τ N E vr vk vn ve) (hc : Chg (fun _ => False) w w') : Ph3 w' B bo τ N E vr vk vn ve :=
  ⟨h.n.same hc, h.e.same hc, hc.cellS h.c0 (fun h => h), hc.cellS h.c1 (fun h => h), hc.cellS h.c2 (fun h => h), hc.cellS h.c3 (fun h => h), fun j => (hc.frozen (p := ⟨bo, j, none⟩) h.lt (fun h => h)).trans (h.zz j), h.hb⟩
theorem Ph3.mark {w : World} {B bo : Nat} {τ τ' : Nat → Nat} {N : List (List Int)} {E : List Int} {vr vk vn ve : Value} (h : Ph3 w B bo τ N E vr vk vn ve) (ht : ∀ g, B ≤ g → g < w.heap.size → τ' g = τ g) : Ph3 w B bo τ' N E vr vk vn ve :=
  ⟨h.n.mark ht, h.e.mark ht, h.c0, h.c1, h.c2, h.c3, h.zz, h.hb⟩
theorem Ph3.ne {w : World} {B bo : Nat} {τ : Nat → Nat} {N N' : List (List Int)} {E E' : List Int} {vr vk vn ve : Value} (h : Ph3 w B bo τ N E vr vk vn ve) (e : N' = N) (e' : E' = E) : Ph3 w B bo τ N' E' vr vk vn ve := e ▸ e' ▸ h
/-- A row more. -/
theorem Ph3.row {w w' : World} {B bo : Nat} {τ : Nat → Nat} {N : List (List Int)} {E : List Int} {vr vk vn ve vn' : Value} {X : List Sl} {y : Sl} {l : List Int} (h : Ph3 w B bo τ N E vr vk vn ve) (h1 : TOwn listE w B τ 0 vn X) (h2 : X.length = N.length) (h3 : ∀ (j : Nat) y l, X[j]? = some y → N[j]? = some l → TOwn intE w B τ 1 (slV y) l)
    (hy : TOwn intE w B τ 1 (slV y) l) (ho : listE.Own w' B vn' (X ++ [y])) (hc : Chg (fun x => vn.ownBlock = some x) w w') (hv : vn'.ownBlock = vn.ownBlock ∨ vn'.ownBlock = some w.heap.size) :
    (w'.cell? ⟨bo, 2, none⟩ = some vn ∧ w'.frozen? ⟨bo, 2, none⟩ = false) ∧ Ph3 (w'.setCell ⟨bo, 2, none⟩ vn') B bo (upd τ w.heap.size 0) (N ++ [l]) E vr vk vn' ve := by
  have hbo : ¬ vn.ownBlock = some bo := fun e => by have := (h1.own.blk e).1; have := h.hb; omega
  have c2 := hc.cellS h.c2 hbo
  have zz := fun j => (hc.frozen (p := ⟨bo, j, none⟩) h.lt hbo).trans (h.zz j)
  have hs := setCellChg w' bo 2 vn'
  have hb := h.hb
  have oth : ∀ (k : Nat) (u : Value), k ≠ 2 → w.cell? ⟨bo, k, none⟩ = some u → (w'.setCell ⟨bo, 2, none⟩ vn').cell? ⟨bo, k, none⟩ = some u := fun k u hk hu => by
    rw [World.cell?_setCell_other _ _ _ _ (by intro e; injection e with _ e; exact hk e.symm)]
    exact hc.cellS hu hbo
  exact ⟨⟨c2, zz 2⟩, (LTOwn.app (by decide) h1 h2 h3 hy ho hc hv).chg hs (fun g hg _ e => by omega), (h1.keep h.e (by decide) hc).chg hs (fun g hg _ e => by omega), oth 0 _ (by decide) h.c0, oth 1 _ (by decide) h.c1, World.cell?_setCell_same _ _ _ c2, oth 3 _ (by decide) h.c3, fun j => (World.frozen?_setCell _ _ _ _).trans (zz j), hb⟩
/-- An end more. -/
theorem Ph3.fin {w w' : World} {B bo : Nat} {τ : Nat → Nat} {N : List (List Int)} {E E' : List Int} {vr vk vn ve ve' : Value} (h : Ph3 w B bo τ N E vr vk vn ve) (ho : intE.Own w' B ve' E') (hc : Chg (fun x => ve.ownBlock = some x) w w') (hv : ve'.ownBlock = ve.ownBlock ∨ ve'.ownBlock = some w.heap.size) :
    (w'.cell? ⟨bo, 3, none⟩ = some ve ∧ w'.frozen? ⟨bo, 3, none⟩ = false) ∧ Ph3 (w'.setCell ⟨bo, 3, none⟩ ve') B bo (upd τ w.heap.size 2) N E' vr vk vn ve' := by
  have hbo : ¬ ve.ownBlock = some bo := fun e => by have := (h.e.own.blk e).1; have := h.hb; omega
  have c3 := hc.cellS h.c3 hbo
  have zz := fun j => (hc.frozen (p := ⟨bo, j, none⟩) h.lt hbo).trans (h.zz j)
  have hs := setCellChg w' bo 3 ve'
  have hb := h.hb
  have oth : ∀ (k : Nat) (u : Value), k ≠ 3 → w.cell? ⟨bo, k, none⟩ = some u → (w'.setCell ⟨bo, 3, none⟩ ve').cell? ⟨bo, k, none⟩ = some u := fun k u hk hu => by
    rw [World.cell?_setCell_other _ _ _ _ (by intro e; injection e with _ e; exact hk e.symm)]
    exact hc.cellS hu hbo
  exact ⟨⟨c3, zz 3⟩, (LTOwn.keep h.e h.n (by decide) (by decide) hc).chg hs (fun g hg _ e => by omega), (h.e.app ho hv).chg hs (fun g hg _ e => by omega), oth 0 _ (by decide) h.c0, oth 1 _ (by decide) h.c1, oth 2 _ (by decide) h.c2, World.cell?_setCell_same _ _ _ c3, fun j => (World.frozen?_setCell _ _ _ _).trans (zz j), hb⟩
/-- Row i of the least table. -/
def rowI (cols : List (List Int)) (i : Nat) : List Int := cols.map fun col => col.getD i 0
theorem rowI_take {cols : List (List Int)} {i c : Nat} {l : List Int} {x : Int} (h : cols[c]? = some l) (hx : l[i]? = some x) : (rowI cols i).take (c + 1) = (rowI cols i).take c ++ [x] := by
  unfold rowI
  rw [List.take_add_one, List.getElem?_map, h]
  simp [hx]
def rowsI (cols : List (List Int)) (n : Nat) : List (List Int) := (List.range n).map (rowI cols)
theorem rowsI_take {cols : List (List Int)} {n i : Nat} (h : i < n) : (rowsI cols n).take (i + 1) = (rowsI cols n).take i ++ [rowI cols i] := by
  unfold rowsI
  rw [List.take_add_one, List.getElem?_map, List.getElem?_range h]
  rfl
def endsI (e : List Int) (o : List Nat) : List Int := o.map fun s => e.getD s 0
theorem endsI_take {e : List Int} {o : List Nat} {i s : Nat} {x : Int} (h : o[i]? = some s) (hx : e[s]? = some x) : (endsI e o).take (i + 1) = (endsI e o).take i ++ [x] := by
  unfold endsI
  rw [List.take_add_one, List.getElem?_map, h]
  simp [hx]
end Go.Proofs.Ytodohgckncnipaa
/- The program's Least: what lies in memory while the table is made. -/
namespace Go.Proofs.Ytodohgckncnipaa
open Go.RowKit Go.Maps

/-- What the making goes by. -/
structure LSrc (t : TabD) (o : List Nat) (F : Nat → Int) (bt gF gm : Nat) (rs cs ns es os : Sl) (w : World) : Prop where
  b : BoxT w bt rs cs ns es
  r : rngE.In w 0 rs t.r
  c : intE.In w 0 cs t.c
  n : ListsIn w 0 ns (bareT t).n
  e : intE.In w 0 es t.e
  q : intE.In w 0 os (natsI o)
  f : NumAt w gF t.n.length F
  m : MapN w gm (o.map F)
theorem LSrc.same {t : TabD} {o : List Nat} {F : Nat → Int} {bt gF gm : Nat} {rs cs ns es os : Sl} {w w' : World} (h : LSrc t o F bt gF gm rs cs ns es os w) (hc : Chg (fun _ => False) w w') : LSrc t o F bt gF gm rs cs ns es os w' :=
  ⟨h.b.chg hc (fun h => h), h.r.same hc, h.c.same hc, h.n.same hc, h.e.same hc, h.q.same hc, h.f.same hc, h.m.chg hc (fun h => h)⟩

/-- Marks behind two appends. -/
def tau2 (τ : Nat → Nat) (n k1 k2 : Nat) (v : Value) : Nat → Nat := fun g => if g < n then τ g else if v.ownBlock = some g then k1 else k2
theorem tau2_lt {τ : Nat → Nat} {n k1 k2 g : Nat} {v : Value} (h : g < n) : tau2 τ n k1 k2 v g = τ g := by unfold tau2; rw [if_pos h]
section
variable {α β γ : Type} {E : Elt α} {F : Elt β} {G : Elt γ}
theorem TOwn.keep2 {w w' : World} {B : Nat} {τ : Nat → Nat} {k1 k2 j : Nat} {vr vk v u z : Value} {X X' : List α} {Y Y' : List β} {Z : List γ} (hR : TOwn E w B τ k1 vr X) (hK : TOwn F w B τ k2 vk Y) (h2 : Two2 E F w B vr vk X' Y' v u w') (h : TOwn G w B τ j z Z) (j1 : j ≠ k1) (j2 : j ≠ k2) : TOwn G w' B (tau2 τ w.heap.size k1 k2 v) j z Z :=
  ⟨h.own.chgB h2.c (fun g hg e => by
    rcases e with e | e
    · exact j1 ((h.tag g hg).symm.trans (hR.tag g e))
    · exact j2 ((h.tag g hg).symm.trans (hK.tag g e))), fun g hg => by rw [tau2_lt (h.own.blk hg).2]; exact h.tag g hg⟩
theorem TOwn.fst2 {w w' : World} {B : Nat} {τ : Nat → Nat} {k1 k2 : Nat} {vr vk v u : Value} {X X' : List α} {Y' : List β} (hR : TOwn E w B τ k1 vr X) (h2 : Two2 E F w B vr vk X' Y' v u w') : TOwn E w' B (tau2 τ w.heap.size k1 k2 v) k1 v X' :=
  ⟨h2.a, fun g hg => by
    unfold tau2
    by_cases h : g < w.heap.size
    · rw [if_pos h]
      rcases h2.va g hg with h3 | h3
      · exact hR.tag g h3
      · omega
    · rw [if_neg h, if_pos hg]⟩
theorem TOwn.snd2 {w w' : World} {B : Nat} {τ : Nat → Nat} {k1 k2 : Nat} {vr vk v u : Value} {Y : List β} {X' : List α} {Y' : List β} (hK : TOwn F w B τ k2 vk Y) (h2 : Two2 E F w B vr vk X' Y' v u w') : TOwn F w' B (tau2 τ w.heap.size k1 k2 v) k2 u Y' :=
  ⟨h2.b, fun g hg => by
    unfold tau2
    by_cases h : g < w.heap.size
    · rw [if_pos h]
      rcases h2.ub g hg with h3 | h3
      · exact hK.tag g h3
      · omega
    · rw [if_neg h, if_neg (fun e => h2.ne g e hg)]⟩
end
/-- Two cells of a block are written. -/
theorem storeTwo {w : World} {b i j : Nat} {u0 u1 : Value} (v0 v1 : Value) (hij : i ≠ j) (h0 : w.cell? ⟨b, i, none⟩ = some u0) (h1 : w.cell? ⟨b, j, none⟩ = some u1) (z : ∀ k, w.frozen? ⟨b, k, none⟩ = false) :
    (w.setCell ⟨b, i, none⟩ v0).cell? ⟨b, j, none⟩ = some u1 ∧ (w.setCell ⟨b, i, none⟩ v0).frozen? ⟨b, j, none⟩ = false ∧ ((w.setCell ⟨b, i, none⟩ v0).setCell ⟨b, j, none⟩ v1).cell? ⟨b, i, none⟩ = some v0 ∧ ((w.setCell ⟨b, i, none⟩ v0).setCell ⟨b, j, none⟩ v1).cell? ⟨b, j, none⟩ = some v1 ∧
      (∀ k u, k ≠ i → k ≠ j → w.cell? ⟨b, k, none⟩ = some u → ((w.setCell ⟨b, i, none⟩ v0).setCell ⟨b, j, none⟩ v1).cell? ⟨b, k, none⟩ = some u) ∧ (∀ k, ((w.setCell ⟨b, i, none⟩ v0).setCell ⟨b, j, none⟩ v1).frozen? ⟨b, k, none⟩ = false) ∧ Chg (fun x => x = b) w ((w.setCell ⟨b, i, none⟩ v0).setCell ⟨b, j, none⟩ v1) := by
  have k1 : (w.setCell ⟨b, i, none⟩ v0).cell? ⟨b, j, none⟩ = some u1 := (World.cell?_setCell_other _ _ _ _ (by intro e; injection e with _ e; exact hij e)).trans h1
  have k0 := World.cell?_setCell_same w ⟨b, i, none⟩ v0 h0
  refine ⟨k1, (World.frozen?_setCell _ _ _ _).trans (z j), (World.cell?_setCell_other _ _ _ _ (by intro e; injection e with _ e; exact hij e.symm)).trans k0, World.cell?_setCell_same _ _ _ k1, fun k u e1 e2 hu => ?_, fun k => (World.frozen?_setCell _ _ _ _).trans ((World.frozen?_setCell _ _ _ _).trans (z k)), (setCellChg _ _ _ _).trans (setCellChg _ _ _ _)⟩
  rw [World.cell?_setCell_other _ _ _ _ (by intro e; injection e with _ e; exact e2 e.symm), World.cell?_setCell_other _ _ _ _ (by intro e; injection e with _ e; exact e1 e.symm)]
  exact hu
/-- A range and a class more, in one statement. -/
theorem Ph2.two {w w' : World} {B bo : Nat} {τ : Nat → Nat} {z : ColZ} {vc vr vk v u : Value} {R' : List (Int × Int)} {C' : List Int} (h : Ph2 w B bo τ z vc vr vk) (h2 : Two2 rngE intE w B vr vk R' C' v u w') :
    (w'.cell? ⟨bo, 0, none⟩ = some vr ∧ w'.frozen? ⟨bo, 0, none⟩ = false) ∧ ((w'.setCell ⟨bo, 0, none⟩ v).cell? ⟨bo, 1, none⟩ = some vk ∧ (w'.setCell ⟨bo, 0, none⟩ v).frozen? ⟨bo, 1, none⟩ = false) ∧
      Ph2 ((w'.setCell ⟨bo, 0, none⟩ v).setCell ⟨bo, 1, none⟩ u) B bo (tau2 τ w.heap.size 2 3 v) (z.1, R', C') vc v u ∧ Chg (fun k => k = bo ∨ B ≤ k) w ((w'.setCell ⟨bo, 0, none⟩ v).setCell ⟨bo, 1, none⟩ u) := by
  have hb := h.hb
  have hbo : ¬ (vr.ownBlock = some bo ∨ vk.ownBlock = some bo) := by
    rintro (e | e)
    · have := (h.r.own.blk e).1; omega
    · have := (h.k.own.blk e).1; omega
  have c0 := h2.c.cellS h.c0 hbo
  have c1 := h2.c.cellS h.c1 hbo
  have zz := fun j => (h2.c.frozen (p := ⟨bo, j, none⟩) h.lt hbo).trans (h.zz j)
  obtain ⟨k1, k2, k3, k4, k5, k6, k7⟩ := storeTwo v u (by decide) c0 c1 zz
  have far : ∀ g, B ≤ g → ¬ g = bo := fun g hg e => by omega
  have hcols : LTOwn w' B (tau2 τ w.heap.size 2 3 v) 0 1 vc z.1 := by
    obtain ⟨X, m1, m2, m3⟩ := h.cols.x
    exact ⟨X, h.r.keep2 h.k h2 m1 (by decide) (by decide), m2, fun j y l hy hl => h.r.keep2 h.k h2 (m3 j y l hy hl) (by decide) (by decide)⟩
  refine ⟨⟨c0, zz 0⟩, ⟨k1, k2⟩, ⟨hcols.chg k7 (fun g hg _ => far g hg), (h.r.fst2 h2).chg k7 (fun g hg _ => far g hg), (h.k.snd2 h2).chg k7 (fun g hg _ => far g hg), k3, k4, k5 2 _ (by decide) (by decide) (h2.c.cellS h.c2 hbo), k5 3 _ (by decide) (by decide) (h2.c.cellS h.c3 hbo), k6, hb⟩, ?_⟩
  exact (h2.c.mono (fun k _ e => .inr (by
    rcases e with e | e
    · exact (h.r.own.blk e).1
    · exact (h.k.own.blk e).1))).trans (k7.mono (fun k _ e => .inl e))

/-- A list of lists of one's own, each with a mark of its own. -/
structure LTJ (w : World) (B : Nat) (τ : Nat → Nat) (k r : Nat) (v : Value) (LL : List (List Int)) : Prop where
  x : ∃ X : List Sl, TOwn listE w B τ k v X ∧ X.length = LL.length ∧ ∀ (j : Nat) y l, X[j]? = some y → LL[j]? = some l → TOwn intE w B τ (r + j) (slV y) l
theorem LTJ.nil (w : World) (B : Nat) (τ : Nat → Nat) (k r : Nat) : LTJ w B τ k r (.slice none 0 0) [] := ⟨[], .nil _ _ _ _ _, rfl, fun j y l h => by simp at h⟩
theorem LTJ.same {w w' : World} {B : Nat} {τ : Nat → Nat} {k r : Nat} {v : Value} {LL : List (List Int)} (h : LTJ w B τ k r v LL) (hc : Chg (fun _ => False) w w') : LTJ w' B τ k r v LL := by
  obtain ⟨X, h1, h2, h3⟩ := h.x
  exact ⟨X, h1.same hc, h2, fun j y l hy hl => (h3 j y l hy hl).same hc⟩
theorem LTJ.chg {S : Nat → Prop} {w w' : World} {B : Nat} {τ : Nat → Nat} {k r : Nat} {v : Value} {LL : List (List Int)} (h : LTJ w B τ k r v LL) (hc : Chg S w w') (hs : ∀ g, B ≤ g → τ g = k ∨ r ≤ τ g → ¬ S g) : LTJ w' B τ k r v LL := by
  obtain ⟨X, h1, h2, h3⟩ := h.x
  exact ⟨X, h1.chg hc (fun g hg ht => hs g hg (.inl ht)), h2, fun j y l hy hl => (h3 j y l hy hl).chg hc (fun g hg ht => hs g hg (.inr (by omega)))⟩
theorem LTJ.shape {w : World} {B : Nat} {τ : Nat → Nat} {k r : Nat} {v : Value} {LL : List (List Int)} (h : LTJ w B τ k r v LL) : ∃ a c, v = .slice a LL.length c ∧ LL.length ≤ c := by
  obtain ⟨X, h1, h2, h3⟩ := h.x
  obtain ⟨a, c, e, hc⟩ := h1.shape
  exact ⟨a, c, by rw [e, h2], by omega⟩
theorem LTJ.mark {w : World} {B : Nat} {τ τ' : Nat → Nat} {k r : Nat} {v : Value} {LL : List (List Int)} (h : LTJ w B τ k r v LL) (ht : ∀ g, B ≤ g → g < w.heap.size → τ' g = τ g) : LTJ w B τ' k r v LL := by
  obtain ⟨X, h1, h2, h3⟩ := h.x
  exact ⟨X, h1.mark ht, h2, fun j y l hy hl => (h3 j y l hy hl).mark ht⟩
theorem LTJ.lists {w : World} {B : Nat} {τ : Nat → Nat} {k r : Nat} {a : Option Addr} {n c : Nat} {LL : List (List Int)} (h : LTJ w B τ k r (.slice a n c) LL) : ListsIn w B (a, n, c) LL := by
  obtain ⟨X, h1, h2, h3⟩ := h.x
  obtain ⟨a', c', e, hc⟩ := h1.shape
  injection e with e1 e2 e3
  subst e1 e2 e3
  refine ⟨X, h1.own.in' hc, h2, fun j y l hy hl => ?_⟩
  have ho := (h3 j y l hy hl).own
  obtain ⟨y1, y2, y3⟩ := y
  obtain ⟨a2, c2, e2, hc2, _⟩ := ho.clip
  unfold slV at e2
  injection e2 with f1 f2 f3
  simp only at f1 f2 f3
  subst f1 f2 f3
  exact ho.in' hc2
/-- Rows and ends of the table that is made. -/
structure Ph3J (w : World) (B bo : Nat) (τ : Nat → Nat) (N : List (List Int)) (E : List Int) (vr vk vn ve : Value) : Prop where
  n : LTJ w B τ 0 10 vn N
  e : TOwn intE w B τ 2 ve E
  c0 : w.cell? ⟨bo, 0, none⟩ = some vr
  c1 : w.cell? ⟨bo, 1, none⟩ = some vk
  c2 : w.cell? ⟨bo, 2, none⟩ = some vn
  c3 : w.cell? ⟨bo, 3, none⟩ = some ve
  zz : ∀ j, w.frozen? ⟨bo, j, none⟩ = false
  hb : bo < B
theorem Ph3J.lt {w : World} {B bo : Nat} {τ : Nat → Nat} {N : List (List Int)} {E : List Int} {vr vk vn ve : Value} (h : Ph3J w B bo τ N E vr vk vn ve) : bo < w.heap.size := World.block_lt_of_cell? _ _ h.c0
theorem Ph3J.same {w w' : World} {B bo : Nat} {τ : Nat → Nat} {N : List (List Int)} {E : List Int} {vr vk vn ve : Value} (h : Ph3J w B bo τ N E vr vk vn ve) (hc : Chg (fun _ => False) w w') : Ph3J w' B bo τ N E vr vk vn ve :=
  ⟨h.n.same hc, h.e.same hc, hc.cellS h.c0 (fun h => h), hc.cellS h.c1 (fun h => h), hc.cellS h.c2 (fun h => h), hc.cellS h.c3 (fun h => h), fun j => (hc.frozen (p := ⟨bo, j, none⟩) h.lt (fun h => h)).trans (h.zz j), h.hb⟩
theorem Ph3J.mark {w : World} {B bo : Nat} {τ τ' : Nat → Nat} {N : List (List Int)} {E : List Int} {vr vk vn ve : Value} (h : Ph3J w B bo τ N E vr vk vn ve) (ht : ∀ g, B ≤ g → g < w.heap.size → τ' g = τ g) : Ph3J w B bo τ' N E vr vk vn ve :=
  ⟨h.n.mark ht, h.e.mark ht, h.c0, h.c1, h.c2, h.c3, h.zz, h.hb⟩
theorem Ph3J.ne {w : World} {B bo : Nat} {τ : Nat → Nat} {N N' : List (List Int)} {E E' : List Int} {vr vk vn ve : Value} (h : Ph3J w B bo τ N E vr vk vn ve) (e : N' = N) (e' : E' = E) : Ph3J w B bo τ N' E' vr vk vn ve := e ▸ e' ▸ h
/-- A row and an end more, in one statement. -/
theorem Ph3J.two {w w' : World} {B bo : Nat} {τ : Nat → Nat} {N : List (List Int)} {E E' : List Int} {vr vk vn ve v u : Value} {X : List Sl} {y : Sl} {l : List Int} (h : Ph3J w B bo τ N E vr vk vn ve) (h1 : TOwn listE w B τ 0 vn X) (hX : X.length = N.length) (h3 : ∀ (j : Nat) y l, X[j]? = some y → N[j]? = some l → TOwn intE w B τ (10 + j) (slV y) l)
    (hy : TOwn intE w B τ (10 + N.length) (slV y) l) (h2 : Two2 listE intE w B vn ve (X ++ [y]) E' v u w') :
    (w'.cell? ⟨bo, 2, none⟩ = some vn ∧ w'.frozen? ⟨bo, 2, none⟩ = false) ∧ ((w'.setCell ⟨bo, 2, none⟩ v).cell? ⟨bo, 3, none⟩ = some ve ∧ (w'.setCell ⟨bo, 2, none⟩ v).frozen? ⟨bo, 3, none⟩ = false) ∧
      Ph3J ((w'.setCell ⟨bo, 2, none⟩ v).setCell ⟨bo, 3, none⟩ u) B bo (tau2 τ w.heap.size 0 2 v) (N ++ [l]) E' vr vk v u ∧ Chg (fun k => k = bo ∨ B ≤ k) w ((w'.setCell ⟨bo, 2, none⟩ v).setCell ⟨bo, 3, none⟩ u) := by
  have hb := h.hb
  have hbo : ¬ (vn.ownBlock = some bo ∨ ve.ownBlock = some bo) := by
    rintro (e | e)
    · have := (h1.own.blk e).1; omega
    · have := (h.e.own.blk e).1; omega
  have c2 := h2.c.cellS h.c2 hbo
  have c3 := h2.c.cellS h.c3 hbo
  have zz := fun j => (h2.c.frozen (p := ⟨bo, j, none⟩) h.lt hbo).trans (h.zz j)
  obtain ⟨k1, k2, k3, k4, k5, k6, k7⟩ := storeTwo v u (by decide) c2 c3 zz
  have far : ∀ g, B ≤ g → ¬ g = bo := fun g hg e => by omega
  have hn : LTJ w' B (tau2 τ w.heap.size 0 2 v) 0 10 v (N ++ [l]) := by
    refine ⟨X ++ [y], h1.fst2 h2, by simp [hX], fun j z m hz hm => ?_⟩
    by_cases hj : j < X.length
    · rw [List.getElem?_append_left hj] at hz
      rw [List.getElem?_append_left (by omega)] at hm
      exact h1.keep2 h.e h2 (h3 j z m hz hm) (by omega) (by omega)
    · have hj' : j = X.length := by
        have := (List.getElem?_eq_some_iff.1 hz).1
        simp only [List.length_append, List.length_singleton] at this
        omega
      subst hj'
      rw [List.getElem?_append_right (Nat.le_refl _), Nat.sub_self] at hz
      rw [hX, List.getElem?_append_right (Nat.le_refl _), Nat.sub_self] at hm
      simp only [List.getElem?_cons_zero, Option.some.injEq] at hz hm
      subst hz hm
      rw [hX]
      exact h1.keep2 h.e h2 hy (by omega) (by omega)
  refine ⟨⟨c2, zz 2⟩, ⟨k1, k2⟩, ⟨hn.chg k7 (fun g hg _ => far g hg), (h.e.snd2 h2).chg k7 (fun g hg _ => far g hg), k5 0 _ (by decide) (by decide) (h2.c.cellS h.c0 hbo), k5 1 _ (by decide) (by decide) (h2.c.cellS h.c1 hbo), k3, k4, k6, hb⟩, ?_⟩
  exact (h2.c.mono (fun k _ e => .inr (by
    rcases e with e | e
    · exact (h1.own.blk e).1
    · exact (h.e.own.blk e).1))).trans (k7.mono (fun k _ e => .inl e))

/-- Does a range only go on? -/
def extB (R : List (Int × Int)) (C : List Int) (x c : Int) : Bool := decide (C.getLast? = some c ∧ (R.getLast?.map fun p => p.2 + 1) = some x)
theorem mrg_ext {R : List (Int × Int)} {C : List Int} {x y c : Int} {p : Int × Int} (h : extB (R ++ [p]) C x c = true) : mrg (R ++ [p]) C (x, y) c = (R ++ [(p.1, y)], C) := by
  unfold extB at h
  unfold mrg
  rw [if_pos (of_decide_eq_true h)]
  simp
theorem mrg_not {R : List (Int × Int)} {C : List Int} {x y c : Int} (h : extB R C x c = false) : mrg R C (x, y) c = (R ++ [(x, y)], C ++ [c]) := by
  unfold extB at h
  unfold mrg
  rw [if_neg (of_decide_eq_false h)]
theorem extB_nil (C : List Int) (x c : Int) : extB [] C x c = false := by unfold extB; simp
theorem extB_last (R : List (Int × Int)) (p : Int × Int) (C : List Int) (d x c : Int) : extB (R ++ [p]) (C ++ [d]) x c = (decide (d = c) && decide (p.2 + 1 = x)) := by
  unfold extB
  by_cases h1 : d = c <;> by_cases h2 : p.2 + 1 = x <;> simp [h1, h2]
/-- Which class a column is of, and the columns with it. -/
def colN (cols : List (List Int)) (col : List Int) : Int := if idxV (fun x => x == col) cols < 0 then cols.length else idxV (fun x => x == col) cols
def colsW (cols : List (List Int)) (col : List Int) : List (List Int) := if idxV (fun x => x == col) cols < 0 then cols ++ [col] else cols
theorem foldCol_eq {cols : List (List Int)} {R : List (Int × Int)} {C : List Int} {r : Int × Int} {col : List Int} (h : negB col = false) : foldCol (cols, R, C) r col = (colsW cols col, mrg R C r (colN cols col)) := by
  unfold foldCol colsW colN
  rw [if_neg (by rw [h]; decide)]
  split <;> rfl
theorem zK_neg {t : TabD} {o : List Nat} {k : Nat} {r : Int × Int} {c : Int} (hr : t.r[k]? = some r) (hc : t.c[k]? = some c) (h : negB (colT t o c) = true) : zK t o (k + 1) = zK t o k := by
  rw [zK_step hr hc]
  unfold foldCol
  rw [if_pos h]
end Go.Proofs.Ytodohgckncnipaa
/- The program's Least: a column is filled. -/
namespace Go.Proofs.Ytodohgckncnipaa
open Go.RowKit Go.Maps

/-- The bodies of the loops in a piece of code, in the text's order. -/
def loopsOf : Code → List Code
  | .loop c => c :: loopsOf c
  | .seq a b => loopsOf a ++ loopsOf b
  | .block _ c => loopsOf c
  | .scope c => loopsOf c
  | .cond _ a b => loopsOf a ++ loopsOf b
  | _ => []
noncomputable def LstCBody : Code := ((Try.f10.body.map loopsOf).getD [])[1]?.getD .skip

set_option maxRecDepth 100000 in
set_option maxHeartbeats 8000000 in
theorem fillC_any (t : TabD) (o : List Nat) (F f0 : Nat → Int) (bt gF gm bc gc i cn rc cc nc ec vc : Nat) (ra ca na ea va : Option Addr) (wo : World)
    (HM : Hid (MayS t)) (HF : Hid (Fair t)) (HG : Hid (GrpT t F)) (HO : Hid (Ord t o)) (HCL : Hid (ClsO t o o.length)) (hic : i < t.c.length) (HCN : Hid (t.c[i]? = some (cn : Int)))
    (HSRC : Hid (∀ wx, Chg (fun x => x = gc) wo wx → LSrc t o F bt gF gm (ra, t.r.length, rc) (ca, t.c.length, cc) (na, t.n.length, nc) (ea, t.e.length, ec) (va, o.length, vc) wx))
    (HBC : Hid (wo.cell? ⟨bc, 0, none⟩ = some (.slice (some ⟨gc, 0, none⟩) o.length o.length))) (HNE : Hid (bc ≠ gc)) (HN0 : Hid (NumAt wo gc o.length f0))
    {Q0 : Exit → Act → World → Prop} {c0 c2 c3 c7 c9 c11 c12 c13 c14 c15 c16 c17 c18 c19 c20 c21 c22 c23 c24 c25 c26 c27 c28 c29 c30 c31 c32 c33 c34 c35 c36 c37 c38 c39 c40 c41 c42 c43 c44 c48 c49 c50 c51 c52 c53 c54 c55 c56 c57 c58 c59 c60 c61 c62 c63 c64 c65 c66 c67 c68 c69 c70 c71 c72 c73 c74 c75 c76 c77 c78 c79 c80 c81 c82 c83 c84 c85 c86 c87 c88 c89 c90 c91 c92 c93 c94 c95 c96 c97 c98 c99 c100 c101 c102 c103 c104 c105 c106 c107 c108 c109 c110 c111 c112 c113 c114 c115 c116 c117 c118 c119 c120 c121 c122 c123 c124 c125 c126 c127 c128 c129 c130 c131 c132 c133 c134 c135 c136 c137 c138 c139 c140 c141 c142 c143 c144 c145 c146 c147 c148 c149 c150 c151 c152 c153 c154 c155 c156 c157 c158 c159 c160 c161 c162 c163 c164 c165 c166 c167 c168 c169 c170 c171 c172 c173 c174 c175 c176 c177 c178 c179 c180 c181 c182 c183 c184 c185 c186 c187 c188 c189 c190 c191 c192 c193 c194 c195 c196 c197 c198 c199 : Value}
    (HEX : Hid (∀ (f : Nat → Int) (w' : World), NumAt w' gc o.length f → (∀ j, j < o.length → f j = (colT t o (cn : Int)).getD j 0) → Chg (fun x => x = gc) wo w' → ∀ u11 u12 u13 u48 u49 u50 u51 u52 u53 u54 u55 u56 u57 u58 u59 u60 u61 u62 u63 u64 u65 u66 u67 u68 u69 u70 u71 u72 u73 u74 u75 u76 u77 u78 : Value, Q0 (.exit 2) ⟨List.toArray (c0 :: (.pointer (some ⟨bt, 0, none⟩)) :: c2 :: c3 :: (.slice (some ⟨gF, 0, none⟩) t.n.length t.n.length) :: (.slice va o.length vc) :: (.map (some gm)) :: c7 :: (.int .i64 i) :: c9 :: (.pointer (some ⟨bc, 0, none⟩)) :: u11 :: u12 :: u13 :: c14 :: c15 :: c16 :: c17 :: c18 :: c19 :: c20 :: c21 :: c22 :: c23 :: c24 :: c25 :: c26 :: c27 :: c28 :: c29 :: c30 :: c31 :: c32 :: c33 :: c34 :: c35 :: c36 :: c37 :: c38 :: c39 :: c40 :: c41 :: c42 :: c43 :: c44 :: (.slice va o.length vc) :: (.int .i64 o.length) :: (.int .i64 o.length) :: u48 :: u49 :: u50 :: u51 :: u52 :: u53 :: u54 :: u55 :: u56 :: u57 :: u58 :: u59 :: u60 :: u61 :: u62 :: u63 :: u64 :: u65 :: u66 :: u67 :: u68 :: u69 :: u70 :: u71 :: u72 :: u73 :: u74 :: u75 :: u76 :: u77 :: u78 :: c79 :: c80 :: c81 :: c82 :: c83 :: c84 :: c85 :: c86 :: c87 :: c88 :: c89 :: c90 :: c91 :: c92 :: c93 :: c94 :: c95 :: c96 :: c97 :: c98 :: c99 :: c100 :: c101 :: c102 :: c103 :: c104 :: c105 :: c106 :: c107 :: c108 :: c109 :: c110 :: c111 :: c112 :: c113 :: c114 :: c115 :: c116 :: c117 :: c118 :: c119 :: c120 :: c121 :: c122 :: c123 :: c124 :: c125 :: c126 :: c127 :: c128 :: c129 :: c130 :: c131 :: c132 :: c133 :: c134 :: c135 :: c136 :: c137 :: c138 :: c139 :: c140 :: c141 :: c142 :: c143 :: c144 :: c145 :: c146 :: c147 :: c148 :: c149 :: c150 :: c151 :: c152 :: c153 :: c154 :: c155 :: c156 :: c157 :: c158 :: c159 :: c160 :: c161 :: c162 :: c163 :: c164 :: c165 :: c166 :: c167 :: c168 :: c169 :: c170 :: c171 :: c172 :: c173 :: c174 :: c175 :: c176 :: c177 :: c178 :: c179 :: c180 :: c181 :: c182 :: c183 :: c184 :: c185 :: c186 :: c187 :: c188 :: c189 :: c190 :: c191 :: c192 :: c193 :: c194 :: c195 :: c196 :: c197 :: c198 :: c199 :: []), []⟩ w')) :
    Code.wp Try.prog (Code.loop LstCBody) Q0 ⟨List.toArray (c0 :: (.pointer (some ⟨bt, 0, none⟩)) :: c2 :: c3 :: (.slice (some ⟨gF, 0, none⟩) t.n.length t.n.length) :: (.slice va o.length vc) :: (.map (some gm)) :: c7 :: (.int .i64 i) :: c9 :: (.pointer (some ⟨bc, 0, none⟩)) :: c11 :: c12 :: c13 :: c14 :: c15 :: c16 :: c17 :: c18 :: c19 :: c20 :: c21 :: c22 :: c23 :: c24 :: c25 :: c26 :: c27 :: c28 :: c29 :: c30 :: c31 :: c32 :: c33 :: c34 :: c35 :: c36 :: c37 :: c38 :: c39 :: c40 :: c41 :: c42 :: c43 :: c44 :: (.slice va o.length vc) :: (.int .i64 o.length) :: (.int .i64 0) :: c48 :: c49 :: c50 :: c51 :: c52 :: c53 :: c54 :: c55 :: c56 :: c57 :: c58 :: c59 :: c60 :: c61 :: c62 :: c63 :: c64 :: c65 :: c66 :: c67 :: c68 :: c69 :: c70 :: c71 :: c72 :: c73 :: c74 :: c75 :: c76 :: c77 :: c78 :: c79 :: c80 :: c81 :: c82 :: c83 :: c84 :: c85 :: c86 :: c87 :: c88 :: c89 :: c90 :: c91 :: c92 :: c93 :: c94 :: c95 :: c96 :: c97 :: c98 :: c99 :: c100 :: c101 :: c102 :: c103 :: c104 :: c105 :: c106 :: c107 :: c108 :: c109 :: c110 :: c111 :: c112 :: c113 :: c114 :: c115 :: c116 :: c117 :: c118 :: c119 :: c120 :: c121 :: c122 :: c123 :: c124 :: c125 :: c126 :: c127 :: c128 :: c129 :: c130 :: c131 :: c132 :: c133 :: c134 :: c135 :: c136 :: c137 :: c138 :: c139 :: c140 :: c141 :: c142 :: c143 :: c144 :: c145 :: c146 :: c147 :: c148 :: c149 :: c150 :: c151 :: c152 :: c153 :: c154 :: c155 :: c156 :: c157 :: c158 :: c159 :: c160 :: c161 :: c162 :: c163 :: c164 :: c165 :: c166 :: c167 :: c168 :: c169 :: c170 :: c171 :: c172 :: c173 :: c174 :: c175 :: c176 :: c177 :: c178 :: c179 :: c180 :: c181 :: c182 :: c183 :: c184 :: c185 :: c186 :: c187 :: c188 :: c189 :: c190 :: c191 :: c192 :: c193 :: c194 :: c195 :: c196 :: c197 :: c198 :: c199 :: []), []⟩ wo := by
  conv => arg 2; arg 1; whnf
  have fn := HF.out.n
  have fc := HF.out.c
  have hol := HO.out.len_le
  have HCC : Hid (cn < colsN t) := Lib.hid (by have := col_lt HM.out (List.mem_of_getElem? HCN.out); rwa [Int.toNat_natCast] at this)
  go_loopw [47] (fun q wr => ∃ (k : Nat) (f : Nat → Int), k ≤ o.length ∧ q = .int .i64 k ∧ NumAt wr gc o.length f ∧ (∀ j, j < k → f j = (colT t o (cn : Int)).getD j 0) ∧ Chg (fun x => x = gc) wo wr) (fun q _ => o.length - (intOf q).toNat)
  case atStart => exact ⟨0, f0, by omega, rfl, HN0.out, fun j h => absurd h (Nat.not_lt_zero _), Chg.refl _ _⟩
  case round =>
    obtain ⟨k, f, hk, rfl, hn, hfk, hc⟩ := hrel
    have HN := Lib.hid hn
    have HFK := Lib.hid hfk
    have HC := Lib.hid hc
    clear hn hfk hc
    by_cases hkl : k < o.length
    · have b1 : decide ((k : Int) < (o.length : Int)) = true := by simp; omega
      have hkl2 : k < o.length := hkl
      obtain ⟨s, hs⟩ : ∃ s, o[k]? = some s := ⟨_, List.getElem?_eq_getElem hkl⟩
      have hsl := HO.out.lt s (List.mem_of_getElem? hs)
      have hfnd := HCL.out k s hkl hs (cn : Int) (List.mem_of_getElem? HCN.out)
      rw [Int.toNat_natCast] at hfnd
      have HS := Lib.hid hs
      have HFND := Lib.hid hfnd
      have hL := HSRC.out wr HC.out
      obtain ⟨go, oo, hoa, c1⟩ : ∃ go oo, va = some ⟨go, oo, none⟩ ∧ wr.cell? ⟨go, oo + k, none⟩ = some (.int .i64 (s : Int)) := by
        obtain ⟨x, g, o', hx, ha, hcell, -⟩ := hL.q.getI (k := k) (by rw [natsI_len]; exact hkl)
        rw [natsI_get hs] at hx
        obtain rfl := Option.some.inj hx
        exact ⟨g, o', ha, hcell⟩
      subst hoa
      obtain ⟨c0, z0, -⟩ := HN.out.get hkl
      have k0 := HC.out.cellS HBC.out (fun e => HNE.out e)
      -- the cell is -1 at first
      have HS1 := HN.out.set (j := k) (v := -1) hkl (by constructor <;> omega)
      have hsc1 := setCellChg wr gc k (.int .i64 (-1))
      have HN1 := Lib.hid HS1
      have HC1 := Lib.hid (HC.out.trans hsc1)
      clear hs hfnd hL HS1 hsc1
      obtain ⟨w1, hw1⟩ : ∃ x, wr.setCell ⟨gc, k, none⟩ (.int .i64 (-1)) = x := ⟨_, rfl⟩
      go_upto_region 15 with (fail)
      rw [hw1] at HN1 HC1
      clear hw1 c0 z0 c1 k0
      have hL := HSRC.out w1 HC1.out
      obtain ⟨cx, gc2, oc, hcx, hca, c0, -, -, -, -⟩ := hL.c.getI hic
      rw [HCN.out] at hcx
      obtain rfl := Option.some.inj hcx
      subst hca
      obtain ⟨l, gn, on, la, lc, hl, hna, n0, hin, -, -⟩ := hL.n.getIn (k := s) (by rw [bare_nlen]; exact hsl)
      subst hna
      have hlc : l.length = colsN t := by
        have h1 : t.n[s]? = some t.n[s] := List.getElem?_eq_getElem hsl
        have h2 := bare_row h1
        rw [hl] at h2
        rw [Option.some.inj h2]
        unfold bareL
        rw [List.length_map]
        exact (may_row HM.out h1).1
      have hcl : cn < l.length := by rw [hlc]; exact HCC.out
      obtain ⟨x, gx, ox, hx, hxa, xc, -, -, -, -⟩ := hin.getI hcl
      subst hxa
      have hcase := bare_cell HM.out hl hx
      have p1 : w1.cell? ⟨bt, 1, none⟩ = some (.slice (some ⟨gc2, oc, none⟩) t.c.length cc) := hL.b.2.1
      have p2 : w1.cell? ⟨bt, 2, none⟩ = some (.slice (some ⟨gn, on, none⟩) t.n.length nc) := hL.b.2.2.1
      have HCC2 := Lib.hid (show _ ∧ _ ∧ _ ∧ _ ∧ _ from ⟨p1, p2, c0, n0, xc⟩)
      have HCS := Lib.hid hcase
      clear c0 n0 xc hl hx hin hlc hcase hL p1 p2 hcx
      refine wp_region_same (fun w' => Chg (fun _ => False) w1 w') (by kernel_rfl) (by kernel_rfl) ?_ ?_
      · exact (Chg.refl _ _).drew
      (refine wpC_read rfl (fun _ _ _ h => h) (fun K hK => ?_); apply Exists.intro; refine ⟨fun _ w' _ hC => ?_, ?_⟩; ((skip); go_simp; try with_reducible rfl); (try go_simp); refine hK _ ?_; clear hK K); (refine wpC_read rfl (fun _ _ _ h => h) (fun K hK => ?_); apply Exists.intro; refine ⟨fun _ w' _ hC => ?_, ?_⟩; ((have p1 := hC.cellS HCC2.out.1 (fun h => h); have p2 := hC.cellS HCC2.out.2.1 (fun h => h); have c0 := hC.cellS HCC2.out.2.2.1 (fun h => h); have n0 := hC.cellS HCC2.out.2.2.2.1 (fun h => h); have xc := hC.cellS HCC2.out.2.2.2.2 (fun h => h)); go_simp; try with_reducible rfl); (try go_simp); refine hK _ ?_; clear hK K); (refine wpC_read rfl (fun _ _ _ h => h) (fun K hK => ?_); apply Exists.intro; refine ⟨fun _ w' _ hC => ?_, ?_⟩; ((skip); go_simp; try with_reducible rfl); (try go_simp); refine hK _ ?_; clear hK K); (refine wpC_read rfl (fun _ _ _ h => h) (fun K hK => ?_); apply Exists.intro; refine ⟨fun _ w' _ hC => ?_, ?_⟩; ((skip); go_simp; try with_reducible rfl); (try go_simp); refine hK _ ?_; clear hK K); (refine wpC_read rfl (fun _ _ _ h => h) (fun K hK => ?_); apply Exists.intro; refine ⟨fun _ w' _ hC => ?_, ?_⟩; ((have p1 := hC.cellS HCC2.out.1 (fun h => h); have p2 := hC.cellS HCC2.out.2.1 (fun h => h); have c0 := hC.cellS HCC2.out.2.2.1 (fun h => h); have n0 := hC.cellS HCC2.out.2.2.2.1 (fun h => h); have xc := hC.cellS HCC2.out.2.2.2.2 (fun h => h)); go_simp; try with_reducible rfl); (try go_simp); refine hK _ ?_; clear hK K); (refine wpC_read rfl (fun _ _ _ h => h) (fun K hK => ?_); apply Exists.intro; refine ⟨fun _ w' _ hC => ?_, ?_⟩; ((skip); go_simp; try with_reducible rfl); (try go_simp); refine hK _ ?_; clear hK K); (refine wpC_read rfl (fun _ _ _ h => h) (fun K hK => ?_); apply Exists.intro; refine ⟨fun _ w' _ hC => ?_, ?_⟩; ((have p1 := hC.cellS HCC2.out.1 (fun h => h); have p2 := hC.cellS HCC2.out.2.1 (fun h => h); have c0 := hC.cellS HCC2.out.2.2.1 (fun h => h); have n0 := hC.cellS HCC2.out.2.2.2.1 (fun h => h); have xc := hC.cellS HCC2.out.2.2.2.2 (fun h => h)); go_simp; try with_reducible rfl); (try go_simp); refine hK _ ?_; clear hK K); (refine wpC_read rfl (fun _ _ _ h => h) (fun K hK => ?_); apply Exists.intro; refine ⟨fun _ w' _ hC => ?_, ?_⟩; ((skip); go_simp; try with_reducible rfl); (try go_simp); refine hK _ ?_; clear hK K); (refine wpC_read rfl (fun _ _ _ h => h) (fun K hK => ?_); apply Exists.intro; refine ⟨fun _ w' _ hC => ?_, ?_⟩; ((skip); go_simp; try with_reducible rfl); (try go_simp); refine hK _ ?_; clear hK K); (refine wpC_read rfl (fun _ _ _ h => h) (fun K hK => ?_); apply Exists.intro; refine ⟨fun _ w' _ hC => ?_, ?_⟩; ((have p1 := hC.cellS HCC2.out.1 (fun h => h); have p2 := hC.cellS HCC2.out.2.1 (fun h => h); have c0 := hC.cellS HCC2.out.2.2.1 (fun h => h); have n0 := hC.cellS HCC2.out.2.2.2.1 (fun h => h); have xc := hC.cellS HCC2.out.2.2.2.2 (fun h => h)); go_simp; try with_reducible rfl); (try go_simp); refine hK _ ?_; clear hK K); (refine wpC_read rfl (fun _ _ _ h => h) (fun K hK => ?_); apply Exists.intro; refine ⟨fun _ w' _ hC => ?_, ?_⟩; ((skip); go_simp; try with_reducible rfl); (try go_simp); refine hK _ ?_; clear hK K); (refine wpC_read rfl (fun _ _ _ h => h) (fun K hK => ?_); apply Exists.intro; refine ⟨fun _ w' _ hC => ?_, ?_⟩; ((have p1 := hC.cellS HCC2.out.1 (fun h => h); have p2 := hC.cellS HCC2.out.2.1 (fun h => h); have c0 := hC.cellS HCC2.out.2.2.1 (fun h => h); have n0 := hC.cellS HCC2.out.2.2.2.1 (fun h => h); have xc := hC.cellS HCC2.out.2.2.2.2 (fun h => h)); go_simp; try with_reducible rfl); (try go_simp); refine hK _ ?_; clear hK K); (refine wpC_read rfl (fun _ _ _ h => h) (fun K hK => ?_); apply Exists.intro; refine ⟨fun _ w' _ hC => ?_, ?_⟩; ((skip); go_simp; try with_reducible rfl); (try go_simp); refine hK _ ?_; clear hK K)
      refine wpC_nil ?_
      intro w2 hC2
      have HC2 := Lib.hid (HC1.out.trans (hC2.mono (fun _ _ h => h.elim)))
      have HN2 := Lib.hid (HN1.out.same hC2)
      clear hC2 HCC2
      rcases HCS.out with ⟨hneg, hd⟩ | ⟨n, rfl, hnl, hng, hd⟩
      · have b2 : decide (0 ≤ x) = false := by simpa using hneg
        have HF2 : Hid (∀ j, j < k + 1 → (if j = k then (-1 : Int) else f j) = (colT t o (cn : Int)).getD j 0) := Lib.hid (fun j hj => by
          by_cases e : j = k
          · subst e
            rw [if_pos rfl, List.getD_eq_getElem?_getD]
            unfold colT
            rw [List.getElem?_map, HS.out]
            simp only [Option.map_some, Option.getD_some, Int.toNat_natCast]
            unfold entT
            rw [hd, if_pos rfl]
          · rw [if_neg e]; exact HFK.out j (by omega))
        clear hd HCS
        go_wp2
        go_roundw
        case rel => exact ⟨k + 1, _, by omega, by go_num, HN2.out, HF2.out, HC2.out⟩
        case measure => simp [intOf]; omega
      · have b2 : decide (0 ≤ (n : Int)) = true := by simp
        have hL := HSRC.out w2 HC2.out
        obtain ⟨fc0, fz0, fw⟩ := hL.f.get hnl
        have hW : W64 (F n) := ⟨fw.1, fw.2⟩
        have hlook := (hL.m.chg ((Chg.refl (fun _ => False) w2).drew) (fun h => h)).look1 hW
        rw [idx_grp HG.out (fun s hs => HO.out.lt s hs) hnl] at hlook
        rw [← hng] at hd
        -- its number
        have hent : entT t o n = numT t o n := by unfold entT; rw [hd, if_neg (by decide)]
        have hnum : 0 ≤ numT t o n := by
          have hf := HFND.out
          rw [← hng] at hf
          rcases hf with h | h
          · rw [hd] at h; cases h
          · exact (numT_any t o n).1.2 h
        have hmax : max 0 (numT t o n) = numT t o n := by omega
        rw [hmax] at hlook
        have hnb : I.Byte (numT t o n) := by have := (numT_any t o n).2; constructor <;> omega
        obtain ⟨m, hm⟩ : ∃ m, numT t o n = m := ⟨_, rfl⟩
        rw [hm] at hlook hent hnb
        have HF2 : Hid (∀ j, j < k + 1 → (if j = k then m else (if j = k then (-1 : Int) else f j)) = (colT t o (cn : Int)).getD j 0) := Lib.hid (fun j hj => by
          by_cases e : j = k
          · subst e
            rw [if_pos rfl, List.getD_eq_getElem?_getD]
            unfold colT
            rw [List.getElem?_map, HS.out]
            simp only [Option.map_some, Option.getD_some, Int.toNat_natCast]
            rw [← hng, hent]
          · rw [if_neg e, if_neg e]; exact HFK.out j (by omega))
        have k0 := HC2.out.cellS HBC.out (fun e => HNE.out e)
        obtain ⟨c0, z0, -⟩ := HN2.out.get hkl
        have HN3 := Lib.hid ((HN2.out.same ((Chg.refl (fun _ => False) w2).drew)).set (j := k) (v := m) hkl hnb)
        have HC3 := Lib.hid ((HC2.out.trans ((Chg.refl _ w2).drew)).trans (setCellChg w2.drew gc k (.int .i64 m)))
        clear hd HCS hm hent hmax hng hnum hL
        go_upto_region 17 with (fail)
        (refine stillTail 8 (by kernel_rfl) (by kernel_rfl) ?_; simp only [List.take_succ_cons, List.take_zero, List.drop_succ_cons, List.drop_zero]; (repeat still_step); refine wpStill_nil ?_)
        go_wp2
        go_roundw
        case rel => exact ⟨k + 1, _, by omega, by go_num, HN3.out, HF2.out, HC3.out⟩
        case measure => simp [intOf]; omega
    · obtain rfl : k = o.length := by omega
      have b1 : decide ((o.length : Int) < (o.length : Int)) = false := by simp
      go_wp2_with fail
      exact HEX.out f wr HN.out HFK.out HC.out _ _ _ _ _ _ _ _ _ _ _ _ _ _ _ _ _ _ _ _ _ _ _ _ _ _ _ _ _ _ _ _ _ _
end Go.Proofs.Ytodohgckncnipaa
/- The program's groups: states that no text tells apart. -/
namespace Go.Proofs.Ytodohgckncnipaa
open Go.RowKit Go.Maps

/-- A round's head: groups by F, so many. -/
structure GrpAt (t : TabD) (bo bm : Nat) (w : World) (g : Nat) (F : Nat → Int) : Prop where
  n : NumAt w g t.n.length F
  o : w.cell? ⟨bo, 0, none⟩ = some (.slice (some ⟨g, 0, none⟩) t.n.length t.n.length) ∧ w.frozen? ⟨bo, 0, none⟩ = false
  m : w.cell? ⟨bm, 0, none⟩ = some (.int .i64 (kinds F t.n.length)) ∧ w.frozen? ⟨bm, 0, none⟩ = false
  p : bo ≠ bm
theorem GrpAt.same {t : TabD} {bo bm g : Nat} {w w' : World} {F : Nat → Int} (h : GrpAt t bo bm w g F) (hc : Chg (fun _ => False) w w') : GrpAt t bo bm w' g F :=
  ⟨h.n.same hc, ⟨hc.cellS h.o.1 (fun h => h), (hc.frozen (p := ⟨bo, 0, none⟩) (World.block_lt_of_cell? _ _ h.o.1) (fun h => h)).trans h.o.2⟩,
    ⟨hc.cellS h.m.1 (fun h => h), (hc.frozen (p := ⟨bm, 0, none⟩) (World.block_lt_of_cell? _ _ h.m.1) (fun h => h)).trans h.m.2⟩, h.p⟩
theorem own_shape {E : Elt Int} {w : World} {B : Nat} {v : Value} {X : List Int} (h : E.Own w B v X) : ∃ a c, v = .slice a X.length c := by
  obtain ⟨a, c, h1, h2, _⟩ := h.clip
  exact ⟨a, c, h1⟩
theorem grpN_w64 {m : Nat → Int × Int} {n s : Nat} (h : s < n) (hn : n ≤ 1000000000) : W64 (grpN m n s) := by
  have := grpN_byte (m := m) h hn
  exact ⟨this.1, this.2⟩

set_option maxRecDepth 100000 in
set_option maxHeartbeats 4000000 in
theorem groups_any (t : TabD) (rs cs ns es : Sl) (B BN : Nat) (w : World) (h : TabIn w B rs cs ns es t) (ns' : Sl) (hN : ListsIn w BN ns' (bareT t).n) (hm : MayS t) (hf : Fair t) :
    Calls Try.prog 28 #[tabV rs cs ns' es] w fun e w' => ∃ g F, e = .returned (.slice (some ⟨g, 0, none⟩) t.n.length t.n.length) ∧ w.heap.size ≤ g ∧ NumAt w' g t.n.length F ∧ (∀ a b, a < t.n.length → b < t.n.length → (F a = F b ↔ eqB t a b = true)) ∧ Chg (fun _ => False) w w' := by
  have HTB := Lib.hid h
  have HNB := Lib.hid hN
  have HM := Lib.hid hm
  have HF := Lib.hid hf
  obtain ⟨ra, rn, rc⟩ := rs
  obtain ⟨ca, cn, cc⟩ := cs
  obtain ⟨na, nn, nc⟩ := ns'
  obtain ⟨ea, en, ec⟩ := es
  obtain ⟨hn0, hn1⟩ := hN.len
  rw [bare_nlen] at hn0
  have hn0 : nn = t.n.length := hn0
  subst hn0
  have hen : en = t.e.length := (h.e.len).1
  subst hen
  have HEL := Lib.hid hm.el
  have fn := hf.n
  have eg2 := enters_of Try.func62 (by kernel_rfl) rfl
  have eg3 := enters_of Try.func63 (by kernel_rfl) rfl
  clear h hN hm hf
  obtain ⟨wa, hwa⟩ : ∃ x, x = w.alloc (.cells #[.slice ra rn rc, .slice ca cn cc, .slice na t.n.length nc, .slice ea t.e.length ec] 26) := ⟨_, rfl⟩
  have HC0 : Hid (Chg (fun _ => False) w wa) := Lib.hid (by rw [hwa]; exact (Chg.refl _ _).alloc _)
  have HSA : Hid (wa.heap.size = w.heap.size + 1) := Lib.hid (by rw [hwa]; simp)
  have HBX : Hid (BoxT wa w.heap.size (ra, rn, rc) (ca, cn, cc) (na, t.n.length, nc) (ea, t.e.length, ec)) := Lib.hid (by rw [hwa]; exact tabBox w (ra, rn, rc) (ca, cn, cc) (na, t.n.length, nc) (ea, t.e.length, ec) 26)
  have HWA := Lib.hid hwa
  clear hwa
  have q3 : wa.cell? ⟨w.heap.size, 3, none⟩ = some (.slice ea t.e.length ec) := HBX.out.2.2.2
  show Calls Try.prog 28 #[.agg #[.slice ra rn rc, .slice ca cn cc, .slice na t.n.length nc, .slice ea t.e.length ec]] w _
  go_enter Try.func28, Try.ntmps28
  go_upto_region 1 with (fail)
  rw [← HWA.out]
  go_wp2_with fail
  go_step3
  go_wp2_with fail
  refine (cloneInt t.e ea ec B wa (HTB.out.e.same HC0.out) HF.out.e).mono ?_
  rintro e w1 ⟨v, rfl, ho, hc1⟩
  obtain ⟨oa, oc, rfl⟩ := own_shape ho
  have HC1 := Lib.hid hc1
  have HB1 := Lib.hid (HBX.out.chg hc1 (fun h => h))
  clear ho hc1 q3
  obtain ⟨wy, hwy⟩ : ∃ x, x = w1.alloc (.cells #[.slice oa t.e.length oc] 23) := ⟨_, rfl⟩
  obtain ⟨w2, hw2⟩ : ∃ x, x = wy.alloc (.cells #[.int .i64 0] 3) := ⟨_, rfl⟩
  have hsy : wy.heap.size = w1.heap.size + 1 := by rw [hwy]; simp
  have hcy : Chg (fun _ => False) w1 wy := by rw [hwy]; exact (Chg.refl _ _).alloc _
  have hcz : Chg (fun _ => False) wy w2 := by rw [hw2]; exact (Chg.refl _ _).alloc _
  have HC2 := Lib.hid (HC1.out.trans (hcy.trans hcz))
  have HB2 := Lib.hid (HB1.out.chg (hcy.trans hcz) (fun h => h))
  have HO2 : Hid (w2.cell? ⟨w1.heap.size, 0, none⟩ = some (.slice oa t.n.length oc) ∧ w2.frozen? ⟨w1.heap.size, 0, none⟩ = false) := Lib.hid (by
    rw [← HEL.out]
    refine ⟨hcz.cellS ?_ (fun h => h), (hcz.frozen (p := ⟨w1.heap.size, 0, none⟩) (by show w1.heap.size < _; omega) (fun h => h)).trans ?_⟩
    · rw [hwy, World.cell?_alloc_new]; rfl
    · rw [hwy]; exact World.frozen?_alloc_new _ _ _ _)
  have HK2 : Hid (w2.cell? ⟨wy.heap.size, 0, none⟩ = some (.int .i64 0) ∧ w2.frozen? ⟨wy.heap.size, 0, none⟩ = false) := Lib.hid (by
    refine ⟨?_, ?_⟩
    · rw [hw2, World.cell?_alloc_new]; rfl
    · rw [hw2]; exact World.frozen?_alloc_new _ _ _ _)
  have HBS : Hid (wa.heap.size ≤ w1.heap.size ∧ wa.heap.size ≤ wy.heap.size ∧ w1.heap.size ≠ wy.heap.size) := Lib.hid (by have := HC1.out.size; omega)
  have HW2 := Lib.hid (show _ ∧ _ from ⟨hwy, hw2⟩)
  clear hwy hw2 hsy hcy hcz
  go_upto_region 2 with (fail)
  rw [← HW2.out.1]
  go_upto_region 3 with (fail)
  rw [← HW2.out.2]
  obtain ⟨bo, hbo⟩ : ∃ x, w1.heap.size = x := ⟨_, rfl⟩
  obtain ⟨bm, hbm⟩ : ∃ x, wy.heap.size = x := ⟨_, rfl⟩
  rw [hbo] at HO2 HBS ⊢
  rw [hbm] at HK2 HBS ⊢
  clear hbo hbm
  -- by what ends
  have HG2 : Hid (GivesK 62 #[.pointer (some ⟨w.heap.size, 0, none⟩)] (fun s => (t.e.getD s 0, (0 : Int))) t.n.length w2) := Lib.hid (fun s hs w' hc => by
    have hc := hc.fresh
    exact ends_mark t.e ea ec w.heap.size B s _ _ _ w' (HB2.out.chg hc (fun h => h)) (HTB.out.e.same ((HC0.out.trans HC2.out).trans hc)) (by rw [HEL.out]; exact hs) (by rw [HEL.out]; exact fn))
  have HA2 : Hid (AllW (fun s => (t.e.getD s 0, (0 : Int))) t.n.length) := Lib.hid (fun s hs => by
    obtain ⟨x, g, o, hx, -, -, x0, x1, -⟩ := HTB.out.e.getI (k := s) (by rw [HEL.out]; exact hs)
    have : t.e.getD s 0 = x := by rw [List.getD_eq_getElem?_getD, hx]; rfl
    simp only [this]
    exact ⟨⟨x0, x1⟩, by decide⟩)
  go_wp2_with fail
  refine (number_any 62 #[.pointer (some ⟨w.heap.size, 0, none⟩)] (fun s => (t.e.getD s 0, (0 : Int))) t.n.length oc oa 0 bo bm w2 eg2 HG2.out HA2.out HO2.out HK2.out HBS.out.2.2 fn).mono ?_
  rintro e w3 ⟨g, rfl, hg, hn, ho, hk, ⟨z0, z1⟩, hc⟩
  rw [kinds_grp] at hk
  have HA3 : Hid (GrpAt t bo bm w3 g (grpN (fun s => (t.e.getD s 0, (0 : Int))) t.n.length)) := Lib.hid ⟨hn, ⟨ho, z0⟩, ⟨hk, z1⟩, HBS.out.2.2⟩
  have HC3 : Hid (Chg (fun k => wa.heap.size ≤ k) wa w3) := Lib.hid (HC2.out.any.trans (hc.mono (fun k _ e => by have := HBS.out; omega)))
  have HBA : Hid (∀ wx, Chg (fun k => wa.heap.size ≤ k) wa wx → BoxT wx w.heap.size (ra, rn, rc) (ca, cn, cc) (na, t.n.length, nc) (ea, t.e.length, ec)) := Lib.hid (fun wx hx => HBX.out.chg hx.fresh (fun h => h))
  have HNA : Hid (∀ wx, Chg (fun k => wa.heap.size ≤ k) wa wx → ListsIn wx BN (na, t.n.length, nc) (bareT t).n) := Lib.hid (fun wx hx => HNB.out.same (HC0.out.trans hx.fresh))
  obtain ⟨F0, hF0⟩ : ∃ x, grpN (fun s => (t.e.getD s 0, (0 : Int))) t.n.length = x := ⟨_, rfl⟩
  have HOK : Hid (GrpOk t F0) := Lib.hid (hF0 ▸ grp_first t)
  rw [hF0] at HA3
  have hlen := HM.out.nl
  obtain ⟨l0, gn0, on0, la0, lc0, hl0, hna0, n00, hin0, -, -⟩ := (HNA.out w3 HC3.out).getIn (k := 0) (by rw [bare_nlen]; exact hlen)
  subst hna0
  have hl0c : l0.length = colsN t := by
    have h1 : t.n[0]? = some t.n[0] := List.getElem?_eq_getElem hlen
    have h2 := bare_row h1
    rw [hl0] at h2
    rw [Option.some.inj h2]
    unfold bareL
    rw [List.length_map]
    exact (may_row HM.out h1).1
  have hcN : colsN t ≤ 1000000000 := by
    have h1 : t.n[0]? = some t.n[0] := List.getElem?_eq_getElem hlen
    have := (may_row HM.out h1).1
    have := HF.out.l _ (List.mem_of_getElem? h1)
    omega
  rw [hl0c, Nat.add_zero] at n00
  have q2 : w3.cell? ⟨w.heap.size, 2, none⟩ = some (.slice (some ⟨gn0, on0, none⟩) t.n.length nc) := (HBA.out w3 HC3.out).2.2.1
  have k0 := HA3.out.m.1
  have hgsz : wa.heap.size ≤ g := by have := HC2.out.size; omega
  clear hn ho hk z0 z1 hc hg hl0 hin0 hl0c hF0 HG2 HA2 HO2 HK2
  go_wp2_with fail
  go_step3
  go_wp2_with fail
  go_loopg [7] (t.n.length + 1) (fun gk v wr => ∃ g F, GrpAt t bo bm wr g F ∧ wa.heap.size ≤ g ∧ GrpOk t F ∧ t.n.length < gk + kinds F t.n.length ∧ Chg (fun k => wa.heap.size ≤ k) wa wr)
  case atStart => exact ⟨g, F0, HA3.out, by have := HBS.out; have := hgsz; omega, HOK.out, by omega, HC3.out⟩
  case round =>
    clear HA3 HOK HC3
    obtain ⟨g, F, ha, hgB, hok, hgk, hc⟩ := hrel
    have HA := Lib.hid ha
    have HOK := Lib.hid hok
    have HGK := Lib.hid hgk
    have HC := Lib.hid hc
    have HGB := Lib.hid hgB
    have k0 := ha.m.1
    clear ha hok hgk hc hgB
    obtain ⟨wo, hwo⟩ : ∃ x, x = wr := ⟨_, rfl⟩
    rw [← hwo] at HA HC k0 ⊢
    clear hwo
    go_wp2
    clear k0
    go_loopw [24] (fun q wr => ∃ (c g' : Nat) (F' : Nat → Int), c ≤ colsN t ∧ q = .int .i64 c ∧ GrpAt t bo bm wr g' F' ∧ wa.heap.size ≤ g' ∧ ColsOk t F F' c ∧ Chg (fun k => wa.heap.size ≤ k) wa wr) (fun q _ => colsN t - (intOf q).toNat)
    case atStart => exact ⟨0, g, F, by omega, rfl, HA.out, HGB.out, ColsOk.start HOK.out, HC.out⟩
    case round =>
      clear HA HC HGB
      obtain ⟨c, g', F', hc0, rfl, ha, hgB, hcok, hc⟩ := hrel
      have HA := Lib.hid ha
      have HCO := Lib.hid hcok
      have HC := Lib.hid hc
      have HGB := Lib.hid hgB
      clear ha hcok hc hgB
      by_cases hcl : c < colsN t
      · have b1 : decide ((c : Int) < (colsN t : Int)) = true := by simp; omega
        have o0 := HA.out.o.1
        obtain ⟨wx, hwx⟩ : ∃ x, x = wr.alloc (.cells #[.int .i64 (c : Int)] 3) := ⟨_, rfl⟩
        obtain ⟨wz, hwz⟩ : ∃ x, x = wx.alloc (.cells #[.slice (some ⟨g', 0, none⟩) t.n.length t.n.length] 23) := ⟨_, rfl⟩
        have HWX := Lib.hid (show _ ∧ _ from ⟨hwx, hwz⟩)
        have hcx : Chg (fun _ => False) wr wx := by rw [hwx]; exact (Chg.refl _ _).alloc _
        have hcz : Chg (fun _ => False) wx wz := by rw [hwz]; exact (Chg.refl _ _).alloc _
        have HBC : Hid (wz.cell? ⟨wr.heap.size, 0, none⟩ = some (.int .i64 (c : Int))) := Lib.hid (hcz.cellS (by rw [hwx, World.cell?_alloc_new]; rfl) (fun h => h))
        have HBB : Hid (wz.cell? ⟨wx.heap.size, 0, none⟩ = some (.slice (some ⟨g', 0, none⟩) t.n.length t.n.length)) := Lib.hid (by rw [hwz, World.cell?_alloc_new]; rfl)
        have HCZ := Lib.hid (HC.out.trans (hcx.trans hcz).any)
        have HAZ := Lib.hid (HA.out.same (hcx.trans hcz))
        have o0 := hcx.cellS o0 (fun h => h)
        have HG3 : Hid (GivesK 63 #[.pointer (some ⟨wx.heap.size, 0, none⟩), .pointer (some ⟨w.heap.size, 0, none⟩), .pointer (some ⟨wr.heap.size, 0, none⟩)] (markC t F' c) t.n.length wz) := Lib.hid (fun s hs w' hc => by
          have hc' := hc.fresh
          have hcw := HCZ.out.trans hc'.any
          have hs0 : t.n[s]? = some t.n[s] := List.getElem?_eq_getElem hs
          have hl := bare_row hs0
          have hlc : (bareL t t.n[s]).length = colsN t := by unfold bareL; rw [List.length_map]; exact (may_row HM.out hs0).1
          have hx : (bareL t t.n[s])[c]? = some ((bareL t t.n[s])[c]'(by omega)) := List.getElem?_eq_getElem _
          have hgo := goN_at hl hx
          rw [bare_nlen] at hgo
          have hxb := bare_cell HM.out hl hx
          obtain ⟨x, hxx⟩ : ∃ x, (bareL t t.n[s])[c]'(by omega) = x := ⟨_, rfl⟩
          rw [hxx] at hx hgo hxb
          have hmk : markC t F' c s = (F' s, if 0 ≤ x then F' x.toNat else -1) := by
            unfold markC
            rw [hgo]
            rcases hxb with ⟨k1, -⟩ | ⟨n, k1, k2, -⟩
            · rw [if_neg (show ¬ 0 ≤ x by omega), if_neg (show ¬ 0 ≤ x by omega), if_neg (by omega)]
            · rw [if_pos (show 0 ≤ x by omega), if_pos (show 0 ≤ x by omega), if_pos (by omega)]
          rw [hmk]
          have hx0 : -1 ≤ x := by
            have := (may_row HM.out hs0).2 c
            unfold bareL at hx
            rw [List.getElem?_map] at hx
            cases hy : t.n[s][c]? with
            | none => rw [hy] at hx; cases hx
            | some y =>
              rw [hy] at hx
              have h1 := Option.some.inj hx
              have h2 := this y hy
              unfold bareX at h1
              split at h1 <;> omega
          exact next_mark (bareT t).n F' (bareL t t.n[s]) x t.n.length c s wx.heap.size w.heap.size wr.heap.size g' BN _ _ _ _ w' (HBA.out w' hcw) (HNA.out w' hcw) (HAZ.out.n.same hc') (hc'.cellS HBB.out (fun h => h)) (hc'.cellS HBC.out (fun h => h)) (by rw [bare_nlen]; exact hs) hs hl hx (by rcases hxb with ⟨k1, -⟩ | ⟨n, k1, k2, -⟩ <;> omega) hx0 fn (by rw [bare_nlen]; exact fn) (by rw [hlc]; exact hcN))
        have HAM : Hid (AllW (markC t F' c) t.n.length) := Lib.hid (fun s hs => by
          refine ⟨(HAZ.out.n.get hs).2.2, ?_⟩
          unfold markC
          simp only
          split
          · rename_i h; exact (HAZ.out.n.get h).2.2
          · decide)
        have HSZ : Hid (bo < wz.heap.size ∧ bm < wz.heap.size ∧ wr.heap.size < wz.heap.size) := Lib.hid ⟨World.block_lt_of_cell? _ _ HAZ.out.o.1, World.block_lt_of_cell? _ _ HAZ.out.m.1, World.block_lt_of_cell? _ _ HBC.out⟩
        clear hwx hwz hcx hcz HC HA
        go_upto_region 10 with (fail)
        rw [← HWX.out.1]
        go_upto_region 11 with (fail)
        rw [← HWX.out.2]
        clear o0
        go_wp2_with fail
        refine (number_any 63 #[.pointer (some ⟨wx.heap.size, 0, none⟩), .pointer (some ⟨w.heap.size, 0, none⟩), .pointer (some ⟨wr.heap.size, 0, none⟩)] (markC t F' c) t.n.length t.n.length (some ⟨g', 0, none⟩) (kinds F' t.n.length) bo bm wz eg3 HG3.out HAM.out HAZ.out.o HAZ.out.m HBS.out.2.2 fn).mono ?_
        rintro e w4 ⟨g2, rfl, hg2, hn, ho, hk, ⟨z0, z1⟩, hc⟩
        rw [kinds_grp] at hk
        have HA4 : Hid (GrpAt t bo bm w4 g2 (grpN (markC t F' c) t.n.length)) := Lib.hid ⟨hn, ⟨ho, z0⟩, ⟨hk, z1⟩, HBS.out.2.2⟩
        have HC4 : Hid (Chg (fun k => wa.heap.size ≤ k) wa w4) := Lib.hid (HCZ.out.trans (hc.mono (fun k _ e => by have := HBS.out; omega)))
        have HG4 : Hid (wa.heap.size ≤ g2) := Lib.hid (by have := HCZ.out.size; omega)
        have HCO4 : Hid (ColsOk t F (grpN (markC t F' c) t.n.length) (c + 1)) := Lib.hid (HCO.out.step HM.out hcl)
        clear hn ho hk z0 z1 hc hg2 HG3 HAM HAZ HCZ
        go_wp2
        go_roundw
        case rel => exact ⟨c + 1, g2, _, by omega, by go_num, HA4.out, HG4.out, HCO4.out, HC4.out⟩
        case measure => simp [intOf]; omega
      · obtain rfl : c = colsN t := by omega
        have b1 : decide ((colsN t : Int) < (colsN t : Int)) = false := by simp
        have k0 := HA.out.m.1
        have o0 := HA.out.o.1
        obtain ⟨kF, hkF⟩ : ∃ x, kinds F t.n.length = x := ⟨_, rfl⟩
        obtain ⟨kG, hkG⟩ : ∃ x, kinds F' t.n.length = x := ⟨_, rfl⟩
        have HKK := Lib.hid (show _ ∧ _ from ⟨hkF, hkG⟩)
        rw [hkG] at k0
        rw [hkF]
        clear hkF hkG
        have hmore : kF ≤ kG := by have := HCO.out.more; rw [HKK.out.1, HKK.out.2] at this; exact this
        have hkl : kG ≤ t.n.length := by have := kinds_le F' t.n.length; rw [HKK.out.2] at this; exact this
        by_cases he : kG = kF
        · have b2 : ((kG : Int) == (kF : Int)) = true := by simp [he]
          have HFIN : Hid (∀ a b, a < t.n.length → b < t.n.length → (F' a = F' b ↔ eqB t a b = true)) := Lib.hid (fun a b ha hb => HCO.out.done HM.out HOK.out (by rw [HKK.out.1, HKK.out.2]; omega) ha hb)
          have HCE : Hid (Chg (fun _ => False) w wr) := Lib.hid (HC0.out.trans HC.out.fresh)
          subst he
          clear hmore
          go_wp2
          rw [Exit.noGoto_ret]
          go_ret
          exact ⟨g', F', rfl, by have := HGB.out; have := HSA.out; omega, HA.out.n, HFIN.out, HCE.out⟩
        · have b2 : ((kG : Int) == (kF : Int)) = false := by simp; omega
          have HMS : Hid (t.n.length + 1 - kG < gk ∧ t.n.length < (t.n.length + 1 - kG) + kinds F' t.n.length) := Lib.hid (by have := HGK.out; rw [HKK.out.1] at this; rw [HKK.out.2]; omega)
          go_wp2
          go_roundg (t.n.length + 1 - kG)
          case measure => exact HMS.out.1
          case rel => exact ⟨g', F', HA.out, HGB.out, HCO.out.ok, HMS.out.2, HC.out⟩
end Go.Proofs.Ytodohgckncnipaa
