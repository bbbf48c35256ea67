/- The program's Alike: the walk. What a row's proof opens: a list of ints. What a row's proof opens: lists of whatever elements, of lists, a table; none longer than memory holds. How much a table holds: harbingerlaw09's Great. The statements' own small functions: are tables the same; is one too great. The chapter's example: harbingerlaw10.lives. -/
import Derived.Test.YtodohgckncnipaaGA9
import Derived.Test.YtodohgckncnipaaGB1
import Derived.Test.YtodohgckncnipaaGA1
import Derived.Test.YtodohgckncnipaaGA3
import Derived.ProofKit
import Derived.OpenShut
import Derived.ShutString
import Derived.ChangeOld
import Derived.Deep.Slices
import Derived.Deep.Fields
import Derived.SizedLaws
import Derived.Deep.Matrix
/- The program's Alike: the walk. -/
namespace Go.Proofs.Ytodohgckncnipaa
open Go.RowKit Go.Maps

theorem least_fair {t : TabD} (ht : MayS t) (hf : Fair t) : Fair (leastT t) := by
  have hz := zK_facts ht.cl (orderT t) t.r.length (Nat.le_refl _)
  rw [zK_all ht.cl] at hz
  have ho := (order_ok ht).1.len_le
  have h1 := hf.r
  have h2 := hf.n
  refine ⟨?_, ?_, ?_, ?_, ?_⟩
  · show (leastZ t (orderT t)).2.1.length ≤ _; omega
  · show (leastZ t (orderT t)).2.2.length ≤ _; omega
  · rw [least_nlen]; omega
  · show ((orderT t).map fun s => t.e.getD s 0).length ≤ _; rw [List.length_map]; omega
  · intro l hl
    have hl : l ∈ (List.range (orderT t).length).map fun k => (leastZ t (orderT t)).1.map fun col => col.getD k 0 := hl
    obtain ⟨k, -, rfl⟩ := List.mem_map.1 hl
    rw [List.length_map]
    omega
theorem OwnT.tab {w : World} {B : Nat} {τ : Nat → Nat} {rs cs ns es : Sl} {t : TabD} (h : OwnT w B τ rs cs ns es t) : TabIn w B rs cs ns es t :=
  ⟨h.r.own.inS, h.c.own.inS, by obtain ⟨a, n, c⟩ := ns; exact h.n.lists, h.e.own.inS⟩
theorem OwnT.same {w w' : World} {B : Nat} {τ : Nat → Nat} {rs cs ns es : Sl} {t : TabD} (h : OwnT w B τ rs cs ns es t) (hc : Chg (fun _ => False) w w') : OwnT w' B τ rs cs ns es t :=
  ⟨h.r.same hc, h.c.same hc, h.n.same hc, h.e.same hc, h.k⟩
/-- Do tables the same? -/
def alikeB (t u : TabD) : Bool := mayT t && (mayT u && (decide ((leastT t).r = (leastT u).r) && (decide ((leastT t).c = (leastT u).c) && (decide ((leastT t).e = (leastT u).e) && decide ((leastT t).n = (leastT u).n)))))
theorem alikeB_iff {t u : TabD} : alikeB t u = true ↔ MayS t ∧ MayS u ∧ leastT t = leastT u := by
  unfold alikeB
  simp only [Bool.and_eq_true, decide_eq_true_eq, mayT_iff]
  constructor
  · rintro ⟨h1, h2, h3, h4, h5, h6⟩
    refine ⟨h1, h2, ?_⟩
    cases ht : leastT t
    cases hu : leastT u
    rw [ht, hu] at h3 h4 h5 h6
    simp only at h3 h4 h5 h6
    rw [h3, h4, h5, h6]
  · rintro ⟨h1, h2, h3⟩
    rw [h3]
    exact ⟨h1, h2, rfl, rfl, rfl, rfl⟩

theorem least_weak {t : TabD} {w w' : World} {e : Ending} (h : LeastOwn t w e w') : ∃ (rs cs ns es : Sl) (x : Int), e = .returned (.tuple #[.agg #[.slice rs.1 rs.2.1 rs.2.2, .slice cs.1 cs.2.1 cs.2.2, .slice ns.1 ns.2.1 ns.2.2, .slice es.1 es.2.1 es.2.2], .int .i64 x]) ∧ (mayT t = true → x = 0 ∧ TabIn w' w.heap.size rs cs ns es (leastT t)) ∧ (mayT t = false → x = 1) ∧ Chg (fun _ => False) w w' := by
  unfold LeastOwn at h
  cases hm : mayT t with
  | true =>
    rw [if_pos hm] at h
    obtain ⟨rs, cs, ns, es, τ, he, ho, hc⟩ := h
    exact ⟨rs, cs, ns, es, 0, he, fun _ => ⟨rfl, ho.tab⟩, (fun h => by cases h), hc⟩
  | false =>
    rw [if_neg (by rw [hm]; decide)] at h
    exact ⟨(none, 0, 0), (none, 0, 0), (none, 0, 0), (none, 0, 0), 1, h.1, (fun h => by cases h), fun _ => rfl, h.2⟩

set_option maxRecDepth 100000 in
set_option maxHeartbeats 8000000 in
theorem alike_any (t u : TabD) (rs cs ns es rs' cs' ns' es' : Sl) (B B' : Nat) (w : World) (h : TabIn w B rs cs ns es t) (h' : TabIn w B' rs' cs' ns' es' u) (hf : Fair t) (hf' : Fair u) :
    Calls Try.prog 17 #[tabV rs cs ns es, tabV rs' cs' ns' es'] w fun e w' => e = .returned (.bool (alikeB t u)) ∧ Chg (fun _ => False) w w' := by
  have HTB := Lib.hid h
  have HTU := Lib.hid h'
  have HF := Lib.hid hf
  have HFU := Lib.hid hf'
  obtain ⟨ra, rn, rc⟩ := rs
  obtain ⟨ca, cn, cc⟩ := cs
  obtain ⟨na, nn, nc⟩ := ns
  obtain ⟨ea, en, ec⟩ := es
  obtain ⟨ra', rn', rc'⟩ := rs'
  obtain ⟨ca', cn', cc'⟩ := cs'
  obtain ⟨na', nn', nc'⟩ := ns'
  obtain ⟨ea', en', ec'⟩ := es'
  clear h h' hf hf'
  obtain ⟨wt, hwt⟩ : ∃ x, x = w.alloc (.cells #[.slice ra rn rc, .slice ca cn cc, .slice na nn nc, .slice ea en ec] 26) := ⟨_, rfl⟩
  obtain ⟨wa, hwa⟩ : ∃ x, x = wt.alloc (.cells #[.slice ra' rn' rc', .slice ca' cn' cc', .slice na' nn' nc', .slice ea' en' ec'] 26) := ⟨_, rfl⟩
  have hct : Chg (fun _ => False) w wt := by rw [hwt]; exact (Chg.refl _ _).alloc _
  have hca : Chg (fun _ => False) wt wa := by rw [hwa]; exact (Chg.refl _ _).alloc _
  have hst : wt.heap.size = w.heap.size + 1 := by rw [hwt]; simp
  have HC0 := Lib.hid (hct.trans hca)
  have HBX : Hid (BoxT wa w.heap.size (ra, rn, rc) (ca, cn, cc) (na, nn, nc) (ea, en, ec)) := Lib.hid (by
    have h1 : BoxT wt w.heap.size (ra, rn, rc) (ca, cn, cc) (na, nn, nc) (ea, en, ec) := by rw [hwt]; exact tabBox w (ra, rn, rc) (ca, cn, cc) (na, nn, nc) (ea, en, ec) 26
    exact h1.chg hca (fun h => h))
  have HBU : Hid (BoxT wa (w.heap.size + 1) (ra', rn', rc') (ca', cn', cc') (na', nn', nc') (ea', en', ec')) := Lib.hid (by rw [← hst, hwa]; exact tabBox wt (ra', rn', rc') (ca', cn', cc') (na', nn', nc') (ea', en', ec') 26)
  have HWA := Lib.hid (show _ ∧ _ from ⟨hwt, hwa⟩)
  clear hwt hwa hct hca hst
  have q0 : wa.cell? ⟨w.heap.size, 0, none⟩ = some (.slice ra rn rc) := HBX.out.1
  have q1 : wa.cell? ⟨w.heap.size, 1, none⟩ = some (.slice ca cn cc) := HBX.out.2.1
  have q2 : wa.cell? ⟨w.heap.size, 2, none⟩ = some (.slice na nn nc) := HBX.out.2.2.1
  have q3 : wa.cell? ⟨w.heap.size, 3, none⟩ = some (.slice ea en ec) := HBX.out.2.2.2
  show Calls Try.prog 17 #[.agg #[.slice ra rn rc, .slice ca cn cc, .slice na nn nc, .slice ea en ec], .agg #[.slice ra' rn' rc', .slice ca' cn' cc', .slice na' nn' nc', .slice ea' en' ec']] w _
  have HL1 := Lib.hid (least_any t (ra, rn, rc) (ca, cn, cc) (na, nn, nc) (ea, en, ec) B wa (HTB.out.same HC0.out) HF.out)
  go_enter Try.func17, Try.ntmps17
  go_upto_region 1 with (fail)
  rw [← HWA.out.1, ← HWA.out.2]
  go_wp2_with fail
  refine HL1.out.mono ?_
  intro e w1 hp
  obtain ⟨⟨r1a, r1n, r1c⟩, ⟨c1a, c1n, c1c⟩, ⟨n1a, n1n, n1c⟩, ⟨e1a, e1n, e1c⟩, x, rfl, hx1, hx2, hc⟩ := least_weak hp
  simp only at hx1 ⊢
  have HC1 := Lib.hid hc
  have HX := Lib.hid (show _ ∧ _ from ⟨hx1, hx2⟩)
  obtain ⟨w2, hw2⟩ : ∃ X, X = w1.alloc (.cells #[.slice r1a r1n r1c, .slice c1a c1n c1c, .slice n1a n1n n1c, .slice e1a e1n e1c] 26) := ⟨_, rfl⟩
  have HC2 : Hid (Chg (fun _ => False) wa w2) := Lib.hid (hc.trans (by rw [hw2]; exact (Chg.refl _ _).alloc _))
  have HB2 : Hid (BoxT w2 w1.heap.size (r1a, r1n, r1c) (c1a, c1n, c1c) (n1a, n1n, n1c) (e1a, e1n, e1c)) := Lib.hid (by rw [hw2]; exact tabBox w1 (r1a, r1n, r1c) (c1a, c1n, c1c) (n1a, n1n, n1c) (e1a, e1n, e1c) 26)
  have HW2 := Lib.hid hw2
  have p0 : w2.cell? ⟨w.heap.size + 1, 0, none⟩ = some (.slice ra' rn' rc') := HC2.out.cellS HBU.out.1 (fun h => h)
  have p1 : w2.cell? ⟨w.heap.size + 1, 1, none⟩ = some (.slice ca' cn' cc') := HC2.out.cellS HBU.out.2.1 (fun h => h)
  have p2 : w2.cell? ⟨w.heap.size + 1, 2, none⟩ = some (.slice na' nn' nc') := HC2.out.cellS HBU.out.2.2.1 (fun h => h)
  have p3 : w2.cell? ⟨w.heap.size + 1, 3, none⟩ = some (.slice ea' en' ec') := HC2.out.cellS HBU.out.2.2.2 (fun h => h)
  clear hc hx1 hx2 hw2 q0 q1 q2 q3 hp HL1
  go_upto_region 2 with (fail)
  rw [← HW2.out]
  have HL2 := Lib.hid (least_any u (ra', rn', rc') (ca', cn', cc') (na', nn', nc') (ea', en', ec') B' w2 (HTU.out.same (HC0.out.trans HC2.out)) HFU.out)
  go_wp2_with fail
  refine HL2.out.mono ?_
  intro e w3 hp
  obtain ⟨⟨r2a, r2n, r2c⟩, ⟨c2a, c2n, c2c⟩, ⟨n2a, n2n, n2c⟩, ⟨e2a, e2n, e2c⟩, y, rfl, hy1, hy2, hc⟩ := least_weak hp
  simp only at hy1 ⊢
  have HY := Lib.hid (show _ ∧ _ from ⟨hy1, hy2⟩)
  obtain ⟨w4, hw4⟩ : ∃ X, X = w3.alloc (.cells #[.slice r2a r2n r2c, .slice c2a c2n c2c, .slice n2a n2n n2c, .slice e2a e2n e2c] 26) := ⟨_, rfl⟩
  have HC34 : Hid (Chg (fun _ => False) w3 w4) := Lib.hid (by rw [hw4]; exact (Chg.refl _ _).alloc _)
  have HC24 : Hid (Chg (fun _ => False) w2 w4) := Lib.hid (hc.trans HC34.out)
  have HC4 := Lib.hid (HC0.out.trans (HC2.out.trans HC24.out))
  have HB4 : Hid (BoxT w4 w3.heap.size (r2a, r2n, r2c) (c2a, c2n, c2c) (n2a, n2n, n2c) (e2a, e2n, e2c)) := Lib.hid (by rw [hw4]; exact tabBox w3 (r2a, r2n, r2c) (c2a, c2n, c2c) (n2a, n2n, n2c) (e2a, e2n, e2c) 26)
  have HB24 := Lib.hid (HB2.out.chg HC24.out (fun h => h))
  have HW4 := Lib.hid hw4
  have HC12 : Hid (Chg (fun _ => False) w1 w2) := Lib.hid (by rw [HW2.out]; exact (Chg.refl _ _).alloc _)
  clear hc hy1 hy2 hw4 p0 p1 p2 p3 hp HL2
  go_upto_region 3 with (fail)
  rw [← HW4.out]
  cases hmt : mayT t with
  | false =>
    have HA : Hid (alikeB t u = false) := Lib.hid (by unfold alikeB; rw [hmt, Bool.false_and])
    obtain rfl := HX.out.2 hmt
    clear hmt
    go_wp2
    go_ret
    exact ⟨by rw [HA.out]; rfl, HC4.out⟩
  | true =>
    obtain ⟨hx0, htx⟩ := HX.out.1 hmt
    subst hx0
    cases hmu : mayT u with
    | false =>
      have HA : Hid (alikeB t u = false) := Lib.hid (by unfold alikeB; rw [hmu, Bool.false_and, Bool.and_false])
      obtain rfl := HY.out.2 hmu
      clear hmt hmu htx
      go_wp2
      go_ret
      exact ⟨by rw [HA.out]; rfl, HC4.out⟩
    | true =>
      obtain ⟨hy0, hty⟩ := HY.out.1 hmu
      subst hy0
      have HA : Hid (alikeB t u = (decide ((leastT t).r = (leastT u).r) && (decide ((leastT t).c = (leastT u).c) && (decide ((leastT t).e = (leastT u).e) && decide ((leastT t).n = (leastT u).n))))) := Lib.hid (by unfold alikeB; rw [hmt, hmu, Bool.true_and, Bool.true_and])
      have hfl := least_fair (mayT_iff.1 hmt) HF.out
      have HTX := Lib.hid (htx.same (HC12.out.trans HC24.out))
      have HTY := Lib.hid (hty.same HC34.out)
      obtain ⟨T, hT⟩ : ∃ T, leastT t = T := ⟨_, rfl⟩
      obtain ⟨U, hU⟩ : ∃ U, leastT u = U := ⟨_, rfl⟩
      rw [hT] at HTX HA hfl
      rw [hU] at HTY HA
      obtain ⟨rfl, -⟩ := HTX.out.r.len
      obtain ⟨rfl, -⟩ := HTX.out.c.len
      obtain ⟨rfl, -⟩ := HTX.out.n.len
      obtain ⟨rfl, -⟩ := HTX.out.e.len
      obtain ⟨rfl, -⟩ := HTY.out.r.len
      obtain ⟨rfl, -⟩ := HTY.out.c.len
      obtain ⟨rfl, -⟩ := HTY.out.n.len
      obtain ⟨rfl, -⟩ := HTY.out.e.len
      have HFL := Lib.hid hfl
      have x0 : w4.cell? ⟨w1.heap.size, 0, none⟩ = some (.slice r1a T.r.length r1c) := HB24.out.1
      have y0 : w4.cell? ⟨w3.heap.size, 0, none⟩ = some (.slice r2a U.r.length r2c) := HB4.out.1
      clear hmt hmu htx hty hT hU hfl HX HY
      go_wp2_with fail
      refine (equalRng_any T.r U.r r1a r2a r1c r2c _ _ w4 HTX.out.r HTY.out.r HFL.out.r).mono ?_
      rintro e w5 ⟨rfl, hc5⟩
      have HC5 := Lib.hid hc5
      have x1 : w5.cell? ⟨w1.heap.size, 1, none⟩ = some (.slice c1a T.c.length c1c) := hc5.cellS HB24.out.2.1 (fun h => h)
      have y1 : w5.cell? ⟨w3.heap.size, 1, none⟩ = some (.slice c2a U.c.length c2c) := hc5.cellS HB4.out.2.1 (fun h => h)
      clear hc5 x0 y0
      cases h1 : decide (T.r = U.r) with
      | false =>
        rw [h1, Bool.false_and] at HA
        clear h1
        go_wp2
        go_ret
        exact ⟨by rw [HA.out]; rfl, HC4.out.trans HC5.out⟩
      | true =>
        rw [h1, Bool.true_and] at HA
        clear h1
        go_wp2_with fail
        refine (equalInt_any T.c U.c c1a c2a c1c c2c _ _ w5 (HTX.out.c.same HC5.out) (HTY.out.c.same HC5.out) HFL.out.c).mono ?_
        rintro e w6 ⟨rfl, hc6⟩
        have HC6 := Lib.hid (HC5.out.trans hc6)
        have x2 : w6.cell? ⟨w1.heap.size, 3, none⟩ = some (.slice e1a T.e.length e1c) := HC6.out.cellS HB24.out.2.2.2 (fun h => h)
        have y2 : w6.cell? ⟨w3.heap.size, 3, none⟩ = some (.slice e2a U.e.length e2c) := HC6.out.cellS HB4.out.2.2.2 (fun h => h)
        clear hc6 x1 y1
        cases h2 : decide (T.c = U.c) with
        | false =>
          rw [h2, Bool.false_and] at HA
          clear h2
          go_wp2
          go_ret
          exact ⟨by rw [HA.out]; rfl, HC4.out.trans HC6.out⟩
        | true =>
          rw [h2, Bool.true_and] at HA
          clear h2
          go_wp2_with fail
          refine (equalInt_any T.e U.e e1a e2a e1c e2c _ _ w6 (HTX.out.e.same HC6.out) (HTY.out.e.same HC6.out) HFL.out.e).mono ?_
          rintro e w7 ⟨rfl, hc7⟩
          have HC7 := Lib.hid (HC6.out.trans hc7)
          have x3 : w7.cell? ⟨w1.heap.size, 2, none⟩ = some (.slice n1a T.n.length n1c) := HC7.out.cellS HB24.out.2.2.1 (fun h => h)
          have y3 : w7.cell? ⟨w3.heap.size, 2, none⟩ = some (.slice n2a U.n.length n2c) := HC7.out.cellS HB4.out.2.2.1 (fun h => h)
          clear hc7 x2 y2
          cases h3 : decide (T.e = U.e) with
          | false =>
            rw [h3, Bool.false_and] at HA
            clear h3
            go_wp2
            go_ret
            exact ⟨by rw [HA.out]; rfl, HC4.out.trans HC7.out⟩
          | true =>
            rw [h3, Bool.true_and] at HA
            clear h3
            go_wp2_with fail
            refine (equalLists_any T.n U.n n1a n2a n1c n2c _ _ w7 (HTX.out.n.same HC7.out) (HTY.out.n.same HC7.out) HFL.out.n HFL.out.l).mono ?_
            rintro e w8 ⟨rfl, hc8⟩
            have HC8 := Lib.hid (HC7.out.trans hc8)
            clear hc8 x3 y3
            obtain ⟨b, hb⟩ : ∃ b, decide (T.n = U.n) = b := ⟨_, rfl⟩
            rw [hb] at HA ⊢
            clear hb
            go_wp2
            go_ret
            exact ⟨by rw [HA.out]; rfl, HC4.out.trans HC8.out⟩
end Go.Proofs.Ytodohgckncnipaa
/- What a row's proof opens: a list of ints. -/
namespace Go.Proofs.Ytodohgckncnipaa
open Go.ChangeShapes Go.WideShapes Go.ChangeAt Go.RowKit Go.Deep Go.WideMaps

section
variable {H : Type} {enc : TypeId × Value → H} {W : World}
/-- The ints that came in. -/
theorem open_nums {a0 : Option Addr} {len cap0 : Nat} {d : DataW H} {p : List MemPlace} (h : DataW.Trod enc Try.prog W 0 (fun _ => true) true 23 (.slice a0 len cap0) d p) :
    ∃ (g o : Nat) (Z : List Int), len = Z.length ∧ I.BytesAt W g o Z ∧ (0 < Z.length → a0 = some ⟨g, o, none⟩) ∧ len ≤ cap0 ∧ (a0 = none → cap0 = 0) := by
  obtain ⟨fuel, hf⟩ := h
  rcases open_ints Try.underlying23 Try.underlying3 (by kernel_rfl) hf with ⟨hcs, _⟩ | ⟨a, len', cap, zs, hcs, _, hl, _, hz, _, hc, hw⟩
  · simp [Value.cells] at hcs
    obtain ⟨rfl, rfl, rfl⟩ := hcs
    exact ⟨0, 0, [], rfl, ⟨fun k a hk => by simp at hk, fun h => absurd rfl h⟩, fun h => by simp at h, Nat.le_refl _, fun _ => rfl⟩
  · simp [Value.cells] at hcs
    obtain ⟨rfl, rfl, rfl⟩ := hcs
    simp only [if_true] at hz
    obtain ⟨b, o, sp⟩ := a
    have hlen : (zs.take len).length = len := by simp; omega
    have hget : ∀ k x, (zs.take len)[k]? = some x → k < len ∧ zs[k]? = some x := fun k x hk => by
      have h1 := (List.getElem?_eq_some_iff.1 hk).1
      rw [hlen] at h1
      rw [List.getElem?_take_of_lt h1] at hk
      exact ⟨h1, hk⟩
    have hsp : 0 < len → sp = none := fun h0 => by
      have := World.cell?_spot (hc 0 (by omega))
      simpa [Addr.add] using this
    refine ⟨b, o, zs.take len, hlen.symm, ⟨fun k x hk => ?_, fun hne => ?_⟩, fun h0 => ?_, hl, fun h => by cases h⟩
    · obtain ⟨h1, h2⟩ := hget k x hk
      obtain rfl := hsp (by omega)
      have hk' := (List.getElem?_eq_some_iff.1 h2)
      obtain ⟨h3, h4⟩ := hk'
      have h5 := hc k h3
      have h6 : zs.getD k 0 = x := by rw [List.getD_eq_getElem?_getD, h2]; rfl
      rw [h6] at h5
      have h7 := bounds_i64 (hw x (by rw [← h4]; exact List.getElem_mem h3))
      exact ⟨by simpa only [Addr.add_lit] using h5, h7.1, h7.2⟩
    · have h0 : 0 < len := by
        rcases Nat.eq_zero_or_pos len with h | h
        · subst h; simp at hne
        · exact h
      have := World.block_lt_of_cell? _ _ (hc 0 (by omega))
      simpa [Addr.add] using this
    · rw [hlen] at h0
      obtain rfl := hsp h0
      rfl
end

end Go.Proofs.Ytodohgckncnipaa
/- What a row's proof opens: lists of whatever elements, of lists, a table; none longer than memory holds. -/
namespace Go.Proofs.Ytodohgckncnipaa
open Go.ChangeShapes Go.WideShapes Go.ChangeAt Go.RowKit Go.Deep Go.WideMaps

section
variable {H : Type} {enc : TypeId × Value → H} {W : World} {α : Type} {E : Elt α}
theorem Elt.encs_get {L : List α} {j : Nat} {u : Value} (h : (E.encs L)[j]? = some u) : ∃ x, L[j / E.sz]? = some x ∧ (E.enc x)[j % E.sz]? = some u := by
  have h1 := (List.getElem?_eq_some_iff.1 h).1
  rw [E.encs_length] at h1
  have h2 : j / E.sz < L.length := Nat.div_lt_of_lt_mul (by rw [Nat.mul_comm]; exact h1)
  have h3 : j % E.sz < (E.enc L[j / E.sz]).length := by rw [E.len]; exact Nat.mod_lt _ E.pos
  refine ⟨L[j / E.sz], List.getElem?_eq_getElem h2, ?_⟩
  have h4 := E.encs_at (List.getElem?_eq_getElem h2) (List.getElem?_eq_getElem h3)
  rw [Nat.div_add_mod' j E.sz, h] at h4
  rw [List.getElem?_eq_getElem h3]
  exact h4.symm
theorem weightsAll_memG {P : Program} {e : TypeId} {d : DataW H} {n : Nat} (hn : n ∈ d.weights P e) : ∀ {ds : List (DataW H)}, d ∈ ds → n ∈ DataW.weightsAll P e ds
  | [], h => by cases h
  | d' :: ds, h => by
    simp only [DataW.weightsAll, List.mem_append]
    rcases List.mem_cons.1 h with rfl | h
    · exact .inl hn
    · exact .inr (weightsAll_memG hn h)
theorem weights_agg {P : Program} {t : TypeId} {fs : Array Field} (hu : P.underlying t = some (.struct fs)) {i : Nat} {f : Field} {d : DataW H} {parts : List (DataW H)} (hf : fs[i]? = some f) (hd : parts[i]? = some d) {n : Nat} (hn : n ∈ d.weights P f.type) : n ∈ (DataW.agg parts).weights P t := by
  simp only [DataW.weights, hu]
  refine DataW.weights_mem_each (j := i) ?_ hd n hn
  rw [List.getElem?_map, Array.getElem?_toList, hf]
  rfl
/-- A list that came in. -/
theorem open_list (E : Elt α) (hsz : Try.prog.cellsOf E.e = E.sz) (hbs : Try.prog.bytesOf E.e = E.bs) (Q : α → Prop) {fuel : Nat} {cs : List Value} {d : DataW H} {p : List MemPlace} (h : DataW.trod enc Try.prog W 0 (fun _ => true) true fuel E.sl cs = some (d, p)) (hz : ∀ n ∈ d.weights Try.prog E.sl, n ≤ reachBytes)
    (hel : ∀ fuel cs' d' pl, DataW.trod enc Try.prog W 0 (fun _ => true) true fuel E.e cs' = some (d', pl) → cs'.length = E.sz → (∀ n ∈ d'.weights Try.prog E.e, n ≤ reachBytes) → ∃ x, cs' = E.enc x ∧ E.ok x ∧ Q x) :
    ∃ (a : Option Addr) (c : Nat) (L : List α), cs = [.slice a L.length c] ∧ E.In W 0 (a, L.length, c) L ∧ (∀ x ∈ L, Q x) ∧ L.length * E.bs ≤ reachBytes := by
  rcases open_slice E.und h with ⟨rfl, _⟩ | ⟨a, len, cap, m, n, D, Pl, rfl, _, hl, _, hm, hx, hi⟩
  · exact ⟨none, 0, [], rfl, .nil _ _ _, (fun x hx => by cases hx), by simp⟩
  · simp only [if_true] at hm
    subst hm
    simp only [Prod.mk.injEq] at hx
    obtain ⟨rfl, -⟩ := hx
    simp only [DataW.weights, E.und, hbs, List.mem_cons, List.mem_append, List.length_map, List.length_range] at hz
    have hlen := hz _ (.inl rfl)
    have each : ∀ i, i < len → ∃ x : α, (∀ k, k < E.sz → W.cell? (a.add (i * E.sz + k)) = (E.enc x)[k]?) ∧ E.ok x ∧ Q x := by
      intro i hil
      obtain ⟨cs', hc, ht⟩ := hi i (by omega)
      rw [hsz] at hc
      obtain ⟨_, hcl, hat⟩ := World.cells?_some hc
      obtain ⟨x, rfl, h1, h2⟩ := hel _ _ _ _ ht hcl (fun n hn => hz n (.inr (.inl (weightsAll_memG hn (List.mem_map.2 ⟨i, List.mem_range.2 hil, rfl⟩)))))
      exact ⟨x, fun k hk => by rw [← hat k hk, Go.Deep.add_add], h1, h2⟩
    haveI : Inhabited α := ⟨E.z⟩
    obtain ⟨f, hf⟩ := choose_lt each
    have hL : ((List.range len).map f).length = len := by simp
    have hget : ∀ k x, ((List.range len).map f)[k]? = some x → k < len ∧ x = f k := by
      intro k x hx
      have h1 := (List.getElem?_eq_some_iff.1 hx).1
      simp at h1
      simp [h1] at hx
      exact ⟨h1, hx.symm⟩
    have hmem : ∀ x ∈ (List.range len).map f, ∃ k, k < len ∧ x = f k := by
      intro x hx
      obtain ⟨k, hk⟩ := List.getElem?_of_mem hx
      exact ⟨k, hget k x hk⟩
    obtain ⟨b, o, sp⟩ := a
    have hfst : 0 < len → ∃ u, W.cell? ((⟨b, o, sp⟩ : Addr).add 0) = some u := fun h0 => by
      have h1 := (hf 0 h0).1 0 E.pos
      rw [Nat.zero_mul, Nat.zero_add, List.getElem?_eq_getElem (by rw [E.len]; exact E.pos)] at h1
      exact ⟨_, h1⟩
    have hsp : 0 < len → sp = none := fun h0 => by
      obtain ⟨u, hu⟩ := hfst h0
      have := World.cell?_spot hu
      simpa [Addr.add] using this
    refine ⟨some ⟨b, o, sp⟩, m, (List.range len).map f, by rw [hL], ⟨rfl, by show ((List.range len).map f).length ≤ m; rw [hL]; exact hl, b, o, ⟨fun j u hj => ?_, fun x hx => ?_, fun hne => ?_⟩, fun h0 => ?_⟩, fun x hx => ?_, ?_⟩
    · obtain ⟨x, h1, h2⟩ := Elt.encs_get hj
      obtain ⟨h3, rfl⟩ := hget _ _ h1
      obtain rfl := hsp (Nat.lt_of_le_of_lt (Nat.zero_le _) h3)
      have h4 := (hf _ h3).1 (j % E.sz) (Nat.mod_lt _ E.pos)
      rw [Nat.div_add_mod' j E.sz, h2, Addr.add_lit] at h4
      exact h4
    · obtain ⟨k, h1, rfl⟩ := hmem x hx
      exact (hf k h1).2.1
    · have h0 : 0 < len := by
        rcases Nat.eq_zero_or_pos len with h | h
        · subst h; simp at hne
        · exact h
      obtain ⟨u, hu⟩ := hfst h0
      have := World.block_lt_of_cell? _ _ hu
      simpa [Addr.add] using this
    · rw [hL] at h0
      obtain rfl := hsp h0
      exact ⟨rfl, Nat.zero_le _⟩
    · obtain ⟨k, h1, rfl⟩ := hmem x hx
      exact (hf k h1).2.2
    · rw [hL]
      exact Nat.le_trans (Nat.mul_le_mul_right _ (by omega)) hlen
theorem cells_bytes {b o : Nat} {zs : List Int} {C L : Nat} (hc : ∀ c, c < C → W.cell? ((⟨b, o, none⟩ : Addr).add c) = some (.int .i64 (zs.getD c 0))) (hz : zs.length = C) (hl : L ≤ C) (hw : ∀ n ∈ zs, (Lit.int .i64 n).wf = true) : I.BytesAt W b o (zs.take L) := by
  have hlen : (zs.take L).length = L := by simp; omega
  refine ⟨fun k x hk => ?_, fun hne => ?_⟩
  · have h1 := (List.getElem?_eq_some_iff.1 hk).1
    rw [hlen] at h1
    rw [List.getElem?_take_of_lt h1] at hk
    obtain ⟨h3, h4⟩ := List.getElem?_eq_some_iff.1 hk
    have h5 := hc k (by omega)
    have h6 : zs.getD k 0 = x := by rw [List.getD_eq_getElem?_getD, hk]; rfl
    rw [h6] at h5
    have h7 := bounds_i64 (hw x (by rw [← h4]; exact List.getElem_mem h3))
    exact ⟨by simpa only [Addr.add_lit] using h5, h7.1, h7.2⟩
  · have h0 : 0 < L := by
      rcases Nat.eq_zero_or_pos L with h | h
      · subst h; simp at hne
      · exact h
    have := World.block_lt_of_cell? _ _ (hc 0 (by omega))
    simpa [Addr.add] using this
theorem spot_none {b o : Nat} {sp} {v : Value} (h : W.cell? ((⟨b, o, sp⟩ : Addr).add 0) = some v) : sp = none := by
  have := World.cell?_spot h
  simpa [Addr.add] using this

/-- The lists that came in. -/
theorem open_lists {a0 : Option Addr} {len cap0 : Nat} {d : DataW H} {p : List MemPlace} (h : DataW.Trod enc Try.prog W 0 (fun _ => true) true 24 (.slice a0 len cap0) d p) (hz : ∀ n ∈ d.weights Try.prog 24, n ≤ reachBytes) :
    ∃ LL : List (List Int), len = LL.length ∧ ListsIn W 0 (a0, LL.length, cap0) LL ∧ LL.length ≤ 100000000000000 ∧ ∀ l ∈ LL, l.length ≤ 100000000000000 := by
  have b24 : Try.prog.bytesOf 23 = 24 := by kernel_rfl
  have b8 : Try.prog.bytesOf 3 = 8 := by kernel_rfl
  obtain ⟨fuel, hf⟩ := h
  rcases open_int_rows Try.underlying24 Try.underlying23 Try.underlying3 (by kernel_rfl) (by kernel_rfl) hf with ⟨hcs, _⟩ | ⟨a, len', cap, A, L, C, Z, hcs, _, hl, _, hd, hr⟩
  · simp [Value.cells] at hcs
    obtain ⟨rfl, rfl, rfl⟩ := hcs
    exact ⟨[], rfl, ⟨[], .nil _ _ _, rfl, fun j x l hx => by simp at hx⟩, by simp, fun l hl => by cases hl⟩
  · simp [Value.cells] at hcs
    obtain ⟨rfl, rfl, rfl⟩ := hcs
    simp only [Prod.mk.injEq] at hd
    obtain ⟨rfl, -⟩ := hd
    have hrb : reachBytes = 140737488351232 := rfl
    simp only [DataW.weights, Try.underlying24, b24, List.mem_cons, List.mem_append, List.length_map, List.length_range] at hz
    have hlen := hz _ (.inl rfl)
    have hrow : ∀ r, r < len → L r ≤ 100000000000000 := by
      intro r hrl
      obtain ⟨_, h2, _, h4, _, h6, _⟩ := hr r (by omega)
      rcases hA : A r with _ | a'
      · have := h6 hA; omega
      · have hw := hz ((Z r).length * 8) (.inr (.inl (weightsAll_memG (d := Go.Deep.intRow .i64 (A r) (L r) (Z r)) (by
          rw [hA]
          have e : (lits (H := H) .i64 ((Z r).take (L r))).length + (lits (H := H) .i64 ((Z r).drop (L r))).length = (Z r).length := by
            simp [lits]; omega
          simp only [Go.Deep.intRow, DataW.weights, Try.underlying23, b8, e]
          exact List.mem_cons_self) (List.mem_map.2 ⟨r, List.mem_range.2 hrl, rfl⟩))))
        omega
    have hmem : ∀ (j : Nat) l, ((List.range len).map fun r => (Z r).take (L r))[j]? = some l → j < len ∧ l = (Z j).take (L j) := by
      intro j l hj
      have h1 := (List.getElem?_eq_some_iff.1 hj).1
      simp at h1
      simp [h1] at hj
      exact ⟨h1, hj.symm⟩
    have hlj : ∀ j, j < len → ((Z j).take (L j)).length = L j := by
      intro j hj
      obtain ⟨_, h2, _, h4, _⟩ := hr j (by omega)
      simp; omega
    obtain ⟨b, o, sp⟩ := a
    have hsp : 0 < len → sp = none := fun h0 => spot_none (hr 0 (by omega)).1
    refine ⟨(List.range len).map fun r => (Z r).take (L r), by simp, ⟨(List.range len).map fun r => (A r, L r, C r), ⟨by simp, by simpa using hl, b, o, ⟨fun j u hj => ?_, fun _ _ => trivial, fun hne => ?_⟩, fun h0 => ?_⟩, by simp, fun j x l hx hl' => ?_⟩, by simp; omega, fun l hl' => ?_⟩
    · have e : listE.encs ((List.range len).map fun r => (A r, L r, C r)) = (List.range len).map fun r => slV (A r, L r, C r) := by
        unfold Elt.encs
        rw [List.flatMap_map]
        exact List.map_eq_flatMap.symm
      rw [e] at hj
      have h1 := (List.getElem?_eq_some_iff.1 hj).1
      simp at h1
      simp [h1] at hj
      subst hj
      have h2 := (hr j (by omega)).1
      obtain rfl := hsp (by omega)
      simp only [Addr.add_lit] at h2
      exact h2
    · have h0 : 0 < len := by
        rcases Nat.eq_zero_or_pos len with h | h
        · subst h; simp at hne
        · exact h
      have := World.block_lt_of_cell? _ _ (hr 0 (by omega)).1
      simpa [Addr.add] using this
    · simp at h0
      obtain rfl := hsp h0
      exact ⟨rfl, Nat.zero_le _⟩
    · obtain ⟨h1, rfl⟩ := hmem j l hl'
      simp [h1] at hx
      subst hx
      obtain ⟨_, h2, h3, h4, h5, h6, h7⟩ := hr j (by omega)
      refine ⟨(hlj j h1).symm, h2, ?_⟩
      rcases hA : A j with _ | ⟨b', o', sp'⟩
      · have := h6 hA
        have e : (Z j).take (L j) = [] := by rw [List.eq_nil_iff_length_eq_zero, hlj j h1]; omega
        rw [e]
        exact ⟨0, 0, .nil _ _ _ _, fun h => absurd h (by simp)⟩
      · obtain ⟨_, h8⟩ := h7 _ hA
        by_cases h0 : 0 < C j
        · obtain rfl := spot_none (h8 0 h0)
          exact ⟨b', o', intAt.2 (cells_bytes h8 h4 h2 h5), fun _ => ⟨rfl, Nat.zero_le _⟩⟩
        · have e : (Z j).take (L j) = [] := by rw [List.eq_nil_iff_length_eq_zero, hlj j h1]; omega
          rw [e]
          exact ⟨0, 0, .nil _ _ _ _, fun h => absurd h (by simp)⟩
    · obtain ⟨j, hj⟩ := List.getElem?_of_mem hl'
      obtain ⟨h1, rfl⟩ := hmem j l hj
      rw [hlj j h1]
      exact hrow j h1

theorem bounds_i32 {x : Int} (h : (Lit.int .i32 x).wf = true) : I32 x := by
  have e1 : IntKind.i32.min = -2147483648 := rfl
  have e2 : IntKind.i32.max = 2147483647 := rfl
  simp [Lit.wf, e1, e2] at h
  exact h
/-- No list is longer than memory holds. -/
structure Vast (t : TabD) : Prop where
  r : t.r.length ≤ 100000000000000
  c : t.c.length ≤ 100000000000000
  n : t.n.length ≤ 100000000000000
  e : t.e.length ≤ 100000000000000
  l : ∀ l ∈ t.n, l.length ≤ 100000000000000
theorem i32Cells : Try.prog.cellsOf 21 = 1 := by kernel_rfl
theorem slR : Try.prog.cellsOf 22 = 1 := by kernel_rfl
theorem slI : Try.prog.cellsOf 23 = 1 := by kernel_rfl
theorem slL : Try.prog.cellsOf 24 = 1 := by kernel_rfl
theorem tab9Cells : Try.prog.cellsOf 26 = 4 := by kernel_rfl
set_option maxRecDepth 100000 in
/-- Ranges that came in. -/
theorem open_rngs {fuel : Nat} {cs : List Value} {d : DataW H} {p : List MemPlace} (h : DataW.trod enc Try.prog W 0 (fun _ => true) true fuel 22 cs = some (d, p)) (hz : ∀ n ∈ d.weights Try.prog 22, n ≤ reachBytes) :
    ∃ (a : Option Addr) (c : Nat) (L : List (Int × Int)), cs = [.slice a L.length c] ∧ rngE.In W 0 (a, L.length, c) L ∧ L.length ≤ 100000000000000 := by
  obtain ⟨a, c, L, h1, h2, -, h4⟩ := open_list rngE (by kernel_rfl) (by kernel_rfl) (fun _ => True) h hz (fun fuel cs' d' pl ht hl _ => by
    obtain ⟨xs, n', _, _, _, hxl, hg⟩ := DataW.trod_struct Try.underlying54 ht
    match cs', hl with
    | [k0, k1], _ =>
      have hxs : xs.length = 2 := hxl
      have g0 := hg 0 _ rfl
      have g1 := hg 1 _ rfl
      rw [List.getElem?_eq_getElem (by omega)] at g0 g1
      obtain ⟨x0, e0, _, w0⟩ := DataW.trod_int Try.underlying21 g0
      obtain ⟨x1, e1, _, w1⟩ := DataW.trod_int Try.underlying21 g1
      simp [i32Cells] at e0 e1
      subst e0 e1
      exact ⟨(x0, x1), rfl, ⟨bounds_i32 w0, bounds_i32 w1⟩, trivial⟩)
  exact ⟨a, c, L, h1, h2, by have hrb : reachBytes = 140737488351232 := rfl; have : rngE.bs = 8 := rfl; rw [this] at h4; omega⟩
/-- Ints that came in. -/
theorem open_intE {fuel : Nat} {cs : List Value} {d : DataW H} {p : List MemPlace} (h : DataW.trod enc Try.prog W 0 (fun _ => true) true fuel 23 cs = some (d, p)) (hz : ∀ n ∈ d.weights Try.prog 23, n ≤ reachBytes) :
    ∃ (a : Option Addr) (c : Nat) (L : List Int), cs = [.slice a L.length c] ∧ intE.In W 0 (a, L.length, c) L ∧ L.length ≤ 100000000000000 := by
  obtain ⟨a, c, L, h1, h2, -, h4⟩ := open_list intE (by kernel_rfl) (by kernel_rfl) (fun _ => True) h hz (fun fuel cs' d' pl ht hl _ => by
    obtain ⟨x, e, _, w⟩ := DataW.trod_int Try.underlying3 ht
    exact ⟨x, e, bounds_i64 w, trivial⟩)
  exact ⟨a, c, L, h1, h2, by have hrb : reachBytes = 140737488351232 := rfl; have : intE.bs = 8 := rfl; rw [this] at h4; omega⟩
set_option maxRecDepth 100000 in
/-- A table that came in by value. -/
theorem open_tab {v : Value} {d : DataW H} {p : List MemPlace} {b0 : Nat} (hv : Value.okWide Try.prog W .any b0 26 v) (h : DataW.Trod enc Try.prog W 0 (fun _ => true) true 26 v d p) (hz : ∀ n ∈ d.weights Try.prog 26, n ≤ reachBytes) :
    ∃ (t : TabD) (rs cs ns es : Sl), v = tabV rs cs ns es ∧ TabIn W 0 rs cs ns es t ∧ Vast t := by
  obtain ⟨xs, rfl, hs⟩ := okWide_struct Try.underlying26 hv
  obtain ⟨fuel, hf⟩ := h
  obtain ⟨ys, m, _, hd, _, hyl, hg⟩ := DataW.trod_struct Try.underlying26 hf
  simp only [Prod.mk.injEq] at hd
  obtain ⟨rfl, -⟩ := hd
  obtain ⟨l⟩ := xs
  rw [tab9Cells] at hs
  match l, hs with
  | [c0, c1, c2, c3], _ =>
    have hys : ys.length = 4 := hyl
    have g0 := hg 0 _ rfl
    have g1 := hg 1 _ rfl
    have g2 := hg 2 _ rfl
    have g3 := hg 3 _ rfl
    rw [List.getElem?_eq_getElem (by omega)] at g0 g1 g2 g3
    obtain ⟨ra, rc, R, e0, hR, hRl⟩ := open_rngs (d := ys[0].1) (p := ys[0].2) g0 (fun n hn => hz n (weights_agg Try.underlying26 (i := 0) rfl (by rw [List.getElem?_map, List.getElem?_eq_getElem (by omega)]; rfl) hn))
    obtain ⟨ca, cc, C, e1, hC, hCl⟩ := open_intE (d := ys[1].1) (p := ys[1].2) g1 (fun n hn => hz n (weights_agg Try.underlying26 (i := 1) rfl (by rw [List.getElem?_map, List.getElem?_eq_getElem (by omega)]; rfl) hn))
    obtain ⟨ea, ec, E, e3, hE, hEl⟩ := open_intE (d := ys[3].1) (p := ys[3].2) g3 (fun n hn => hz n (weights_agg Try.underlying26 (i := 3) rfl (by rw [List.getElem?_map, List.getElem?_eq_getElem (by omega)]; rfl) hn))
    simp [Value.cells, slR] at e0
    simp [Value.cells, slI] at e1 e3
    have g2' := g2
    simp [Value.cells, slL] at g2'
    subst e0 e1 e3
    obtain ⟨na, nl, nc, rfl⟩ : ∃ a n c, c2 = .slice a n c := by
      rcases open_int_rows Try.underlying24 Try.underlying23 Try.underlying3 (by kernel_rfl) (by kernel_rfl) g2' with ⟨hcs, _⟩ | ⟨a, len', cap, A, L, C, Z, hcs, _⟩
      · simp at hcs; exact ⟨_, _, _, hcs⟩
      · simp at hcs; exact ⟨_, _, _, hcs⟩
    obtain ⟨N, hnl, hN, hNl, hNr⟩ := open_lists (a0 := na) (len := nl) (cap0 := nc) (d := ys[2].1) (p := ys[2].2) ⟨_, by simpa [Value.cells] using g2'⟩ (fun n hn => hz n (weights_agg Try.underlying26 (i := 2) rfl (by rw [List.getElem?_map, List.getElem?_eq_getElem (by omega)]; rfl) hn))
    subst hnl
    exact ⟨⟨R, C, N, E⟩, (ra, R.length, rc), (ca, C.length, cc), (na, N.length, nc), (ea, E.length, ec), rfl, ⟨hR, hC, hN, hE⟩, ⟨hRl, hCl, hNl, hEl, hNr⟩⟩
end
end Go.Proofs.Ytodohgckncnipaa
/- How much a table holds: harbingerlaw09's Great. -/
namespace Go.Proofs.Ytodohgckncnipaa
open Go.RowKit

def gUp (t : TabD) (k : Nat) : Nat := t.r.length + t.c.length + t.e.length + ((t.n.take k).map fun l => l.length + 1).sum
def greatT (t : TabD) : Bool := decide (6000 < gUp t t.n.length)
theorem gUp_zero (t : TabD) : gUp t 0 = t.r.length + t.c.length + t.e.length := by simp [gUp]
theorem gUp_step {t : TabD} {k : Nat} {l : List Int} (h : t.n[k]? = some l) : gUp t (k + 1) = gUp t k + 1 + l.length := by
  unfold gUp
  rw [List.take_add_one, h]
  simp
  omega
theorem gUp_le (t : TabD) (k : Nat) : gUp t k ≤ gUp t t.n.length := by
  have h : ((t.n.take k).map fun l => l.length + 1).sum + ((t.n.drop k).map fun l => l.length + 1).sum = (t.n.map fun l => l.length + 1).sum := by
    rw [← List.sum_append, ← List.map_append, List.take_append_drop]
  unfold gUp
  rw [List.take_length]
  omega
theorem mem_sum {LL : List (List Int)} {l : List Int} (h : l ∈ LL) : l.length + 1 ≤ (LL.map fun l => l.length + 1).sum := by
  induction LL with
  | nil => cases h
  | cons x LL ih =>
    rcases List.mem_cons.1 h with rfl | h
    · simp
    · have := ih h; simp; omega
theorem len_sum (LL : List (List Int)) : LL.length ≤ (LL.map fun l => l.length + 1).sum := by
  induction LL with
  | nil => simp
  | cons x LL ih => simp; omega
/-- A table that is not great is fair. -/
theorem greatT_fair {t : TabD} (h : greatT t = false) : Fair t ∧ t.e.length ≤ 6000 := by
  have h1 : gUp t t.n.length ≤ 6000 := by simpa [greatT] using h
  unfold gUp at h1
  rw [List.take_length] at h1
  have h2 := len_sum t.n
  exact ⟨⟨by omega, by omega, by omega, by omega, fun l hl => by have := mem_sum hl; omega⟩, by omega⟩

set_option maxRecDepth 100000 in
set_option maxHeartbeats 4000000 in
theorem great_any (t : TabD) (rs cs ns es : Sl) (B : Nat) (w : World) (h : TabIn w B rs cs ns es t) (hv : Vast t) :
    Calls Try.prog 23 #[tabV rs cs ns es] w fun e w' => e = .returned (.bool (greatT t)) ∧ Chg (fun _ => False) w w' := by
  obtain ⟨ra, rn, rc⟩ := rs
  obtain ⟨ca, cn, cc⟩ := cs
  obtain ⟨na, nn, nc⟩ := ns
  obtain ⟨ea, en, ec⟩ := es
  obtain ⟨hR, hC, hN, hE⟩ := h
  obtain ⟨fr, fc, fn, fe, fl⟩ := hv
  obtain ⟨rfl, hr1⟩ := hR.len
  obtain ⟨rfl, hc1⟩ := hC.len
  obtain ⟨rfl, hn1⟩ := hN.len
  obtain ⟨rfl, he1⟩ := hE.len
  have HN := Lib.hid hN
  have HL := Lib.hid fl
  have HZ : Hid (gUp t 0 = t.r.length + t.c.length + t.e.length) := Lib.hid (gUp_zero t)
  clear hR hC hN hE fl
  show Calls Try.prog 23 #[.agg #[.slice ra t.r.length rc, .slice ca t.c.length cc, .slice na t.n.length nc, .slice ea t.e.length ec]] w _
  go_enter Try.func23, Try.ntmps23
  go_upto_region 1 with (fail)
  obtain ⟨wa, hwa⟩ : ∃ x, x = w.alloc (.cells #[.slice ra t.r.length rc, .slice ca t.c.length cc, .slice na t.n.length nc, .slice ea t.e.length ec] 26) := ⟨_, rfl⟩
  have HCA : Hid (Chg (fun _ => False) w wa) := Lib.hid (by rw [hwa]; exact (Chg.refl _ _).alloc _)
  obtain ⟨q0, q1, q2, q3⟩ : wa.cell? ⟨w.heap.size, 0, none⟩ = some (.slice ra t.r.length rc) ∧ wa.cell? ⟨w.heap.size, 1, none⟩ = some (.slice ca t.c.length cc) ∧ wa.cell? ⟨w.heap.size, 2, none⟩ = some (.slice na t.n.length nc) ∧ wa.cell? ⟨w.heap.size, 3, none⟩ = some (.slice ea t.e.length ec) := by
    rw [hwa]
    exact tabBox w (ra, t.r.length, rc) (ca, t.c.length, cc) (na, t.n.length, nc) (ea, t.e.length, ec) 26
  rw [← hwa]
  clear hwa
  go_wp2
  go_loopw [3, 4] (fun nv q wr => ∃ k : Nat, k ≤ t.n.length ∧ q = .int .i64 k ∧ nv = .int .i64 (gUp t k) ∧ (k = 0 ∨ gUp t k ≤ 6000) ∧ wr = wa) (fun _ q _ => t.n.length - (intOf q).toNat)
  case atStart => exact ⟨0, by omega, rfl, by rw [HZ.out]; go_num, .inl rfl, rfl⟩
  case round =>
    obtain ⟨k, hk, rfl, rfl, hz, rfl⟩ := hrel
    have hg0 : gUp t k ≤ 300000000000000 := by
      rcases hz with rfl | h
      · rw [HZ.out]; omega
      · omega
    clear hz
    by_cases hkl : k < t.n.length
    · have b1 : decide ((k : Int) < (t.n.length : Int)) = true := by simp; omega
      obtain ⟨l, g, o, la, lc, gl, ol, hl, rfl, c0, hlc, -, -, -, -⟩ := (HN.out.same HCA.out).get hkl
      have hll : l.length ≤ 100000000000000 := HL.out l (List.mem_of_getElem? hl)
      have hst := gUp_step hl
      have HLE := Lib.hid (gUp_le t (k + 1))
      have HST := Lib.hid hst
      clear hl
      by_cases hgt : 6000 < gUp t (k + 1)
      · have d1 : decide (6000 < (gUp t k : Int) + 1 + (l.length : Int)) = true := by simp; omega
        have HR : Hid (greatT t = true) := Lib.hid (by unfold greatT; have := HLE.out; simp; omega)
        clear hst
        go_wp2
        go_ret
        exact ⟨by rw [HR.out]; rfl, HCA.out⟩
      · have d1 : decide (6000 < (gUp t k : Int) + 1 + (l.length : Int)) = false := by simp; omega
        clear hst
        go_wp2
        go_roundw
        case rel => exact ⟨k + 1, by omega, by go_num, by rw [HST.out]; go_num, .inr (by omega), by first | rfl | trivial⟩
        case measure => simp [intOf]; omega
    · obtain rfl : k = t.n.length := by omega
      have b1 : decide ((t.n.length : Int) < (t.n.length : Int)) = false := by simp
      have HR : Hid (decide ((6000 : Int) < (gUp t t.n.length : Int)) = greatT t) := Lib.hid (by unfold greatT; rw [decide_eq_decide]; omega)
      obtain ⟨r, hr⟩ : ∃ r, decide ((6000 : Int) < (gUp t t.n.length : Int)) = r := ⟨_, rfl⟩
      have HR2 : Hid (greatT t = r) := Lib.hid (by rw [← HR.out, hr])
      have hr2 : decide (6000 < gUp t t.n.length) = r := HR2.out
      go_wp2
      go_ret
      exact ⟨by rw [HR2.out]; rfl, HCA.out⟩
end Go.Proofs.Ytodohgckncnipaa
/- The statements' own small functions: are tables the same; is one too great. -/
namespace Go.Proofs.Ytodohgckncnipaa
open Go.RowKit

theorem sameInt_any (X Y : List Int) (ax ay : Option Addr) (cx cy Bx By : Nat) (w : World) (hx : intE.In w Bx (ax, X.length, cx) X) (hy : intE.In w By (ay, Y.length, cy) Y) (hl : X.length ≤ 1000000000) :
    Calls Try.prog 43 #[.slice ax X.length cx, .slice ay Y.length cy] w fun e w' => e = .returned (.bool (decide (X = Y))) ∧ Chg (fun _ => False) w w' := by
  obtain ⟨h1, h2, g, o, h3, h4⟩ := hx
  obtain ⟨k1, k2, g2, o2, k3, k4⟩ := hy
  exact sameNums_any X Y ax ay g o g2 o2 cx cy w (intAt.1 h3) (fun hp => (h4 hp).1) (intAt.1 k3) (fun hp => (k4 hp).1) (by omega)

set_option maxRecDepth 100000 in
set_option maxHeartbeats 2000000 in
theorem sameRng2_any (X Y : List (Int × Int)) (ax ay : Option Addr) (cx cy Bx By : Nat) (w : World) (hx : rngE.In w Bx (ax, X.length, cx) X) (hy : rngE.In w By (ay, Y.length, cy) Y) (hl : X.length ≤ 1000000000) :
    Calls Try.prog 66 #[.slice ax X.length cx, .slice ay Y.length cy] w fun e w' => e = .returned (.bool (decide (X = Y))) ∧ Chg (fun _ => False) w w' := by
  have HX := Lib.hid hx
  have HY := Lib.hid hy
  clear hx hy
  by_cases hxy : X.length = Y.length
  · have b10 : ((X.length : Int) != (Y.length : Int)) = false := by simp [hxy]
    have HXY := Lib.hid hxy
    clear hxy
    go_enter Try.func66, Try.ntmps66
    go_wp2
    go_loopw [5] (fun i wr => ∃ k : Nat, k ≤ X.length ∧ i = .int .i64 k ∧ Chg (fun _ => False) w wr ∧ X.take k = Y.take k) (fun i _ => X.length - (intOf i).toNat)
    case atStart => exact ⟨0, by omega, rfl, Chg.refl _ _, by simp⟩
    case round =>
      obtain ⟨k, hk, rfl, hc, he⟩ := hrel
      have HC := Lib.hid hc
      have HE := Lib.hid he
      clear hc he
      by_cases hkl : k < X.length
      · have b14 : decide ((k : Int) < (X.length : Int)) = true := by simp; omega
        have hkl2 : k < Y.length := by have := HXY.out; omega
        obtain ⟨p0, p1, g, o, hx, rfl, c0, c1, -, -, -, -⟩ := (HX.out.same HC.out).getR hkl
        obtain ⟨q0, q1, g2, o2, hy, rfl, c2, c3, -, -, -, -⟩ := (HY.out.same HC.out).getR hkl2
        have HP := Lib.hid hx
        have HQ := Lib.hid hy
        clear hx hy
        by_cases hpq : (p0, p1) = (q0, q1)
        · injection hpq with h1 h2
          subst h1 h2
          have HT : Hid (X.take (k + 1) = Y.take (k + 1)) := Lib.hid (by rw [List.take_add_one, List.take_add_one, HE.out, HP.out, HQ.out])
          clear HE HP HQ
          go_upto_region 6 with (fail)
          go_still (by kernel_rfl)
          go_wp2
          go_roundw
          case rel => first | exact ⟨k + 1, by omega, by go_num, HC.out.drew, HT.out⟩ | ((repeat apply Exists.intro); exact ⟨⟨k + 1, by omega, rfl, HC.out.drew, HT.out⟩, by (repeat' apply And.intro) <;> first | rfl | go_num⟩)
          case measure => simp [intOf]; omega
        · have HD : Hid (decide (X = Y) = false) := Lib.hid (by
            apply decide_eq_false
            intro h
            rw [h, HQ.out] at HP
            exact hpq (Option.some.inj HP.out).symm)
          have hp3 : ¬ p0 = q0 ∨ (p0 = q0 ∧ ¬ p1 = q1) := by
            by_cases h : p0 = q0
            · exact .inr ⟨h, fun h2 => hpq (by rw [h, h2])⟩
            · exact .inl h
          clear HE HP HQ hpq
          rcases hp3 with hp3 | ⟨hp3, hp4⟩
          · go_upto_region 6 with (fail)
            go_still (by kernel_rfl)
            go_wp2
            go_ret
            exact ⟨by rw [HD.out]; rfl, HC.out.drew⟩
          · subst hp3
            go_upto_region 6 with (fail)
            go_still (by kernel_rfl)
            go_wp2
            go_ret
            exact ⟨by rw [HD.out]; rfl, HC.out.drew⟩
      · obtain rfl : k = X.length := by omega
        have b14 : decide ((X.length : Int) < (X.length : Int)) = false := by simp
        have HD : Hid (decide (X = Y) = true) := Lib.hid (by
          have := HE.out
          rw [List.take_length, HXY.out, List.take_length] at this
          simp [this])
        clear HE
        go_wp2
        go_ret
        exact ⟨by rw [HD.out]; rfl, HC.out⟩
  · have b10 : ((X.length : Int) != (Y.length : Int)) = true := by simp; omega
    have HD : Hid (decide (X = Y) = false) := Lib.hid (by
      apply decide_eq_false
      intro h
      exact hxy (by rw [h]))
    go_enter Try.func66, Try.ntmps66
    go_wp2
    go_ret
    exact ⟨by rw [HD.out]; rfl, Chg.refl _ _⟩
theorem sameRngs_any (X Y : List (Int × Int)) (ax ay : Option Addr) (cx cy Bx By : Nat) (w : World) (hx : rngE.In w Bx (ax, X.length, cx) X) (hy : rngE.In w By (ay, Y.length, cy) Y) (hl : X.length ≤ 1000000000) :
    Calls Try.prog 42 #[.slice ax X.length cx, .slice ay Y.length cy] w fun e w' => e = .returned (.bool (decide (X = Y))) ∧ Chg (fun _ => False) w w' := by
  have HX := Lib.hid hx
  have HY := Lib.hid hy
  clear hx hy
  go_enter Try.func42, Try.ntmps42
  go_wp2_with fail
  refine (sameRng2_any X Y ax ay cx cy Bx By w HX.out HY.out hl).mono ?_
  rintro e w1 ⟨rfl, hc⟩
  have HC := Lib.hid hc
  obtain ⟨b, hb⟩ : ∃ b, decide (X = Y) = b := ⟨_, rfl⟩
  have HBB := Lib.hid hb
  rw [hb]
  clear hc hb
  go_wp2
  go_ret
  exact ⟨by rw [HBB.out]; rfl, HC.out⟩

/-- Are tables the same? -/
def sameB (t u : TabD) : Bool := decide (t.r = u.r) && (decide (t.c = u.c) && (decide (t.e = u.e) && decide (t.n = u.n)))
theorem sameB_iff {t u : TabD} : sameB t u = true ↔ t = u := by
  unfold sameB
  simp only [Bool.and_eq_true, decide_eq_true_eq]
  constructor
  · rintro ⟨h1, h2, h3, h4⟩
    cases t
    cases u
    simp only at h1 h2 h3 h4
    rw [h1, h2, h3, h4]
  · rintro rfl
    exact ⟨rfl, rfl, rfl, rfl⟩

set_option maxRecDepth 100000 in
set_option maxHeartbeats 4000000 in
theorem same9_any (t u : TabD) (rs cs ns es rs' cs' ns' es' : Sl) (B B' : Nat) (w : World) (h : TabIn w B rs cs ns es t) (h' : TabIn w B' rs' cs' ns' es' u) (hf : Fair t) :
    Calls Try.prog 13 #[tabV rs cs ns es, tabV rs' cs' ns' es'] w fun e w' => e = .returned (.bool (sameB t u)) ∧ Chg (fun _ => False) w w' := by
  have HTB := Lib.hid h
  have HTU := Lib.hid h'
  have HF := Lib.hid hf
  obtain ⟨ra, rn, rc⟩ := rs
  obtain ⟨ca, cn, cc⟩ := cs
  obtain ⟨na, nn, nc⟩ := ns
  obtain ⟨ea, en, ec⟩ := es
  obtain ⟨ra', rn', rc'⟩ := rs'
  obtain ⟨ca', cn', cc'⟩ := cs'
  obtain ⟨na', nn', nc'⟩ := ns'
  obtain ⟨ea', en', ec'⟩ := es'
  obtain ⟨rfl, -⟩ := h.r.len
  obtain ⟨rfl, -⟩ := h.c.len
  obtain ⟨rfl, -⟩ := h.n.len
  obtain ⟨rfl, -⟩ := h.e.len
  obtain ⟨rfl, -⟩ := h'.r.len
  obtain ⟨rfl, -⟩ := h'.c.len
  obtain ⟨rfl, -⟩ := h'.n.len
  obtain ⟨rfl, -⟩ := h'.e.len
  have fn := hf.n
  clear h h' hf
  obtain ⟨wt, hwt⟩ : ∃ x, x = w.alloc (.cells #[.slice ra t.r.length rc, .slice ca t.c.length cc, .slice na t.n.length nc, .slice ea t.e.length ec] 26) := ⟨_, rfl⟩
  obtain ⟨wa, hwa⟩ : ∃ x, x = wt.alloc (.cells #[.slice ra' u.r.length rc', .slice ca' u.c.length cc', .slice na' u.n.length nc', .slice ea' u.e.length ec'] 33) := ⟨_, rfl⟩
  have hct : Chg (fun _ => False) w wt := by rw [hwt]; exact (Chg.refl _ _).alloc _
  have hca : Chg (fun _ => False) wt wa := by rw [hwa]; exact (Chg.refl _ _).alloc _
  have hst : wt.heap.size = w.heap.size + 1 := by rw [hwt]; simp
  have HC0 := Lib.hid (hct.trans hca)
  have HBX : Hid (BoxT wa w.heap.size (ra, t.r.length, rc) (ca, t.c.length, cc) (na, t.n.length, nc) (ea, t.e.length, ec)) := Lib.hid (by
    have h1 : BoxT wt w.heap.size (ra, t.r.length, rc) (ca, t.c.length, cc) (na, t.n.length, nc) (ea, t.e.length, ec) := by rw [hwt]; exact tabBox w (ra, t.r.length, rc) (ca, t.c.length, cc) (na, t.n.length, nc) (ea, t.e.length, ec) 26
    exact h1.chg hca (fun h => h))
  have HBU : Hid (BoxT wa (w.heap.size + 1) (ra', u.r.length, rc') (ca', u.c.length, cc') (na', u.n.length, nc') (ea', u.e.length, ec')) := Lib.hid (by rw [← hst, hwa]; exact tabBox wt (ra', u.r.length, rc') (ca', u.c.length, cc') (na', u.n.length, nc') (ea', u.e.length, ec') 33)
  have HWA := Lib.hid (show _ ∧ _ from ⟨hwt, hwa⟩)
  clear hwt hwa hct hca hst
  show Calls Try.prog 13 #[.agg #[.slice ra t.r.length rc, .slice ca t.c.length cc, .slice na t.n.length nc, .slice ea t.e.length ec], .agg #[.slice ra' u.r.length rc', .slice ca' u.c.length cc', .slice na' u.n.length nc', .slice ea' u.e.length ec']] w _
  have HA : Hid (sameB t u = (decide (t.r = u.r) && (decide (t.c = u.c) && (decide (t.e = u.e) && decide (t.n = u.n))))) := Lib.hid rfl
  have x0 : wa.cell? ⟨w.heap.size, 0, none⟩ = some (.slice ra t.r.length rc) := HBX.out.1
  have y0 : wa.cell? ⟨w.heap.size + 1, 0, none⟩ = some (.slice ra' u.r.length rc') := HBU.out.1
  go_enter Try.func13, Try.ntmps13
  go_upto_region 1 with (fail)
  rw [← HWA.out.1, ← HWA.out.2]
  go_wp2_with fail
  refine (sameRngs_any t.r u.r ra ra' rc rc' _ _ wa (HTB.out.same HC0.out).r (HTU.out.same HC0.out).r HF.out.r).mono ?_
  rintro e w5 ⟨rfl, hc5⟩
  have HC5 := Lib.hid hc5
  have x1 : w5.cell? ⟨w.heap.size, 1, none⟩ = some (.slice ca t.c.length cc) := hc5.cellS HBX.out.2.1 (fun h => h)
  have y1 : w5.cell? ⟨w.heap.size + 1, 1, none⟩ = some (.slice ca' u.c.length cc') := hc5.cellS HBU.out.2.1 (fun h => h)
  clear hc5 x0 y0
  cases h1 : decide (t.r = u.r) with
  | false =>
    rw [h1, Bool.false_and] at HA
    clear h1
    go_wp2
    go_ret
    exact ⟨by rw [HA.out]; rfl, HC0.out.trans HC5.out⟩
  | true =>
    rw [h1, Bool.true_and] at HA
    clear h1
    go_wp2_with fail
    refine (sameInt_any t.c u.c ca ca' cc cc' _ _ w5 (HTB.out.same (HC0.out.trans HC5.out)).c (HTU.out.same (HC0.out.trans HC5.out)).c HF.out.c).mono ?_
    rintro e w6 ⟨rfl, hc6⟩
    have HC6 := Lib.hid (HC5.out.trans hc6)
    have x2 : w6.cell? ⟨w.heap.size, 3, none⟩ = some (.slice ea t.e.length ec) := HC6.out.cellS HBX.out.2.2.2 (fun h => h)
    have y2 : w6.cell? ⟨w.heap.size + 1, 3, none⟩ = some (.slice ea' u.e.length ec') := HC6.out.cellS HBU.out.2.2.2 (fun h => h)
    clear hc6 x1 y1
    cases h2 : decide (t.c = u.c) with
    | false =>
      rw [h2, Bool.false_and] at HA
      clear h2
      go_wp2
      go_ret
      exact ⟨by rw [HA.out]; rfl, HC0.out.trans HC6.out⟩
    | true =>
      rw [h2, Bool.true_and] at HA
      clear h2
      go_wp2_with fail
      refine (sameInt_any t.e u.e ea ea' ec ec' _ _ w6 (HTB.out.same (HC0.out.trans HC6.out)).e (HTU.out.same (HC0.out.trans HC6.out)).e HF.out.e).mono ?_
      rintro e w7 ⟨rfl, hc7⟩
      have HC7 := Lib.hid (HC6.out.trans hc7)
      have x3 : w7.cell? ⟨w.heap.size, 2, none⟩ = some (.slice na t.n.length nc) := HC7.out.cellS HBX.out.2.2.1 (fun h => h)
      have y3 : w7.cell? ⟨w.heap.size + 1, 2, none⟩ = some (.slice na' u.n.length nc') := HC7.out.cellS HBU.out.2.2.1 (fun h => h)
      clear hc7 x2 y2
      cases h3 : decide (t.e = u.e) with
      | false =>
        rw [h3, Bool.false_and] at HA
        clear h3
        go_wp2
        go_ret
        exact ⟨by rw [HA.out]; rfl, HC0.out.trans HC7.out⟩
      | true =>
        rw [h3, Bool.true_and] at HA
        clear h3
        by_cases hxy : t.n.length = u.n.length
        · have b10 : ((t.n.length : Int) != (u.n.length : Int)) = false := by simp [hxy]
          have HXY := Lib.hid hxy
          have HBXA : Hid (∀ wx, Chg (fun _ => False) wa wx → wx.cell? ⟨w.heap.size, 2, none⟩ = some (.slice na t.n.length nc) ∧ wx.cell? ⟨w.heap.size + 1, 2, none⟩ = some (.slice na' u.n.length nc')) := Lib.hid (fun wx hx => ⟨hx.cellS HBX.out.2.2.1 (fun h => h), hx.cellS HBU.out.2.2.1 (fun h => h)⟩)
          clear hxy
          go_wp2
          clear x3 y3
          go_loopw [5] (fun i wr => ∃ k : Nat, k ≤ t.n.length ∧ i = .int .i64 k ∧ Chg (fun _ => False) wa wr ∧ t.n.take k = u.n.take k) (fun i _ => t.n.length - (intOf i).toNat)
          case atStart => exact ⟨0, by omega, rfl, HC7.out, by simp⟩
          case round =>
            obtain ⟨k, hk, rfl, hc, he⟩ := hrel
            have HC := Lib.hid hc
            have HE := Lib.hid he
            clear hc he
            obtain ⟨x3, y3⟩ := HBXA.out wr HC.out
            by_cases hkl : k < t.n.length
            · have b14 : decide ((k : Int) < (t.n.length : Int)) = true := by simp; omega
              have b15 : k < t.n.length := hkl
              have hkl2 : k < u.n.length := by have := HXY.out; omega
              obtain ⟨x, g, o, xa, xc, hx, rfl, c0, hxi, -, -⟩ := ((HTB.out.same (HC0.out.trans HC.out)).n).getIn hkl
              obtain ⟨y, g2, o2, ya, yc, hy, rfl, c1, hyi, -, -⟩ := ((HTU.out.same (HC0.out.trans HC.out)).n).getIn hkl2
              have hxl := HF.out.l x (List.mem_of_getElem? hx)
              have HP := Lib.hid hx
              have HQ := Lib.hid hy
              have HCC := Lib.hid (show _ ∧ _ from ⟨c0, c1⟩)
              have HXI := Lib.hid hxi
              have HYI := Lib.hid hyi
              obtain ⟨b, hb⟩ : ∃ b, decide (x = y) = b := ⟨_, rfl⟩
              have HBB := Lib.hid hb
              clear hx hy hxi hyi c0 c1 hb
              go_upto_region 6 with (fail)
              clear x3 y3
              refine wp_region_same (fun w' => Chg (fun _ => False) wr w') (by kernel_rfl) (by kernel_rfl) ?_ ?_
              · exact (Chg.refl _ _).drew
              (refine wpC_read rfl (fun _ _ _ h => h) (fun K hK => ?_); apply Exists.intro; refine ⟨fun _ w' _ hC => ?_, ?_⟩; ((skip); go_simp; try with_reducible rfl); (try go_simp); refine hK _ ?_; clear hK K); (refine wpC_read rfl (fun _ _ _ h => h) (fun K hK => ?_); apply Exists.intro; refine ⟨fun _ w' _ hC => ?_, ?_⟩; ((obtain ⟨x3, y3⟩ := HBXA.out w' (HC.out.trans hC); have c0 := hC.cellS HCC.out.1 (fun h => h); have c1 := hC.cellS HCC.out.2 (fun h => h)); go_simp; try with_reducible rfl); (try go_simp); refine hK _ ?_; clear hK K); (refine wpC_read rfl (fun _ _ _ h => h) (fun K hK => ?_); apply Exists.intro; refine ⟨fun _ w' _ hC => ?_, ?_⟩; ((skip); go_simp; try with_reducible rfl); (try go_simp); refine hK _ ?_; clear hK K); (refine wpC_read rfl (fun _ _ _ h => h) (fun K hK => ?_); apply Exists.intro; refine ⟨fun _ w' _ hC => ?_, ?_⟩; ((skip); go_simp; try with_reducible rfl); (try go_simp); refine hK _ ?_; clear hK K); (refine wpC_read rfl (fun _ _ _ h => h) (fun K hK => ?_); apply Exists.intro; refine ⟨fun _ w' _ hC => ?_, ?_⟩; ((obtain ⟨x3, y3⟩ := HBXA.out w' (HC.out.trans hC); have c0 := hC.cellS HCC.out.1 (fun h => h); have c1 := hC.cellS HCC.out.2 (fun h => h)); go_simp; try with_reducible rfl); (try go_simp); refine hK _ ?_; clear hK K); (refine wpC_read rfl (fun _ _ _ h => h) (fun K hK => ?_); apply Exists.intro; refine ⟨fun _ w' _ hC => ?_, ?_⟩; ((skip); go_simp; try with_reducible rfl); (try go_simp); refine hK _ ?_; clear hK K); (refine wpC_read rfl (fun _ _ _ h => h) (fun K hK => ?_); apply Exists.intro; refine ⟨fun _ w' _ hC => ?_, ?_⟩; ((obtain ⟨x3, y3⟩ := HBXA.out w' (HC.out.trans hC); have c0 := hC.cellS HCC.out.1 (fun h => h); have c1 := hC.cellS HCC.out.2 (fun h => h)); go_simp; try with_reducible rfl); (try go_simp); refine hK _ ?_; clear hK K); (refine wpC_read rfl (fun _ _ _ h => h) (fun K hK => ?_); apply Exists.intro; refine ⟨fun _ w' _ hC => ?_, ?_⟩; ((skip); go_simp; try with_reducible rfl); (try go_simp); refine hK _ ?_; clear hK K); (refine wpC_read rfl (fun _ _ _ h => h) (fun K hK => ?_); apply Exists.intro; refine ⟨fun _ w' _ hC => ?_, ?_⟩; ((skip); go_simp; try with_reducible rfl); (try go_simp); refine hK _ ?_; clear hK K); (refine wpC_read rfl (fun _ _ _ h => h) (fun K hK => ?_); apply Exists.intro; refine ⟨fun _ w' _ hC => ?_, ?_⟩; ((obtain ⟨x3, y3⟩ := HBXA.out w' (HC.out.trans hC); have c0 := hC.cellS HCC.out.1 (fun h => h); have c1 := hC.cellS HCC.out.2 (fun h => h)); go_simp; try with_reducible rfl); (try go_simp); refine hK _ ?_; clear hK K)
              refine wpC_call rfl (Value.bool b )  43  ( #[.slice xa x.length xc, .slice ya y.length yc]) (fun w' => by go_simp) (fun _ w' _ hC => ?_) (fun K hK => ?_)
              · refine (sameInt_any x y xa ya xc yc _ _ w' (HXI.out.same hC) (HYI.out.same hC) hxl).mono ?_
                rintro e wz ⟨rfl, hc⟩
                exact ⟨by rw [HBB.out], hC.trans hc⟩
              ((try go_simp); refine hK _ ?_; clear hK K)
              (refine wpC_read rfl (fun _ _ _ h => h) (fun K hK => ?_); apply Exists.intro; refine ⟨fun _ w' _ hC => ?_, ?_⟩; ((skip); go_simp; try with_reducible rfl); (try go_simp); refine hK _ ?_; clear hK K)
              refine wpC_nil ?_
              intro w2 hC2
              have HC2 := Lib.hid (HC.out.trans hC2)
              clear hC2
              cases b with
              | true =>
                have HT : Hid (t.n.take (k + 1) = u.n.take (k + 1)) := Lib.hid (by rw [List.take_add_one, List.take_add_one, HE.out, HP.out, HQ.out, of_decide_eq_true HBB.out])
                go_wp2
                go_roundw
                case rel => exact ⟨k + 1, by omega, by go_num, HC2.out, HT.out⟩
                case measure => simp [intOf]; omega
              | false =>
                have HD : Hid (decide (t.n = u.n) = false) := Lib.hid (by
                  apply decide_eq_false
                  intro h
                  have h1 := HP.out
                  rw [h, HQ.out] at h1
                  exact of_decide_eq_false HBB.out (Option.some.inj h1).symm)
                go_wp2
                go_ret
                exact ⟨by rw [HA.out, HD.out]; rfl, HC0.out.trans HC2.out⟩
            · obtain rfl : k = t.n.length := by omega
              have HD : Hid (decide (t.n = u.n) = true) := Lib.hid (by
                have := HE.out
                rw [List.take_length, HXY.out, List.take_length] at this
                simp [this])
              go_wp2
              go_ret
              exact ⟨by rw [HA.out, HD.out]; rfl, HC0.out.trans HC.out⟩
        · have b10 : ((t.n.length : Int) != (u.n.length : Int)) = true := by simp; omega
          have HD : Hid (decide (t.n = u.n) = false) := Lib.hid (by
            apply decide_eq_false
            intro h
            exact hxy (by rw [h]))
          clear hxy
          go_wp2
          go_ret
          exact ⟨by rw [HA.out, HD.out]; rfl, HC0.out.trans HC7.out⟩

/-- More than is gone through here? -/
def great10 (t : TabD) : Bool := greatT t || decide (40 < t.n.length)
set_option maxRecDepth 100000 in
theorem great10_any (t : TabD) (rs cs ns es : Sl) (B : Nat) (w : World) (h : TabIn w B rs cs ns es t) (hv : Vast t) :
    Calls Try.prog 7 #[tabV rs cs ns es] w fun e w' => e = .returned (.bool (great10 t)) ∧ Chg (fun _ => False) w w' := by
  have HTB := Lib.hid h
  have HV := Lib.hid hv
  obtain ⟨ra, rn, rc⟩ := rs
  obtain ⟨ca, cn, cc⟩ := cs
  obtain ⟨na, nn, nc⟩ := ns
  obtain ⟨ea, en, ec⟩ := es
  obtain ⟨rfl, -⟩ := h.n.len
  clear h hv
  obtain ⟨wa, hwa⟩ : ∃ x, x = w.alloc (.cells #[.slice ra rn rc, .slice ca cn cc, .slice na t.n.length nc, .slice ea en ec] 26) := ⟨_, rfl⟩
  have HC0 : Hid (Chg (fun _ => False) w wa) := Lib.hid (by rw [hwa]; exact (Chg.refl _ _).alloc _)
  have HBX : Hid (BoxT wa w.heap.size (ra, rn, rc) (ca, cn, cc) (na, t.n.length, nc) (ea, en, ec)) := Lib.hid (by rw [hwa]; exact tabBox w (ra, rn, rc) (ca, cn, cc) (na, t.n.length, nc) (ea, en, ec) 26)
  have HWA := Lib.hid hwa
  clear hwa
  have q0 : wa.cell? ⟨w.heap.size, 0, none⟩ = some (.slice ra rn rc) := HBX.out.1
  have q1 : wa.cell? ⟨w.heap.size, 1, none⟩ = some (.slice ca cn cc) := HBX.out.2.1
  have q2 : wa.cell? ⟨w.heap.size, 2, none⟩ = some (.slice na t.n.length nc) := HBX.out.2.2.1
  have q3 : wa.cell? ⟨w.heap.size, 3, none⟩ = some (.slice ea en ec) := HBX.out.2.2.2
  show Calls Try.prog 7 #[.agg #[.slice ra rn rc, .slice ca cn cc, .slice na t.n.length nc, .slice ea en ec]] w _
  go_enter Try.func7, Try.ntmps7
  go_upto_region 1 with (fail)
  rw [← HWA.out]
  go_wp2_with fail
  refine (great_any t (ra, rn, rc) (ca, cn, cc) (na, t.n.length, nc) (ea, en, ec) B wa (HTB.out.same HC0.out) HV.out).mono ?_
  rintro e w1 ⟨rfl, hc⟩
  have HC1 := Lib.hid (HC0.out.trans hc)
  have q2 := hc.cellS q2 (fun h => h)
  clear hc q0 q1 q3
  cases hg : greatT t with
  | true =>
    have HG : Hid (great10 t = true) := Lib.hid (by unfold great10; rw [hg, Bool.true_or])
    clear hg
    go_wp2
    go_ret
    exact ⟨by rw [HG.out]; rfl, HC1.out⟩
  | false =>
    obtain ⟨b, hb⟩ : ∃ b, decide (40 < t.n.length) = b := ⟨_, rfl⟩
    have HG : Hid (great10 t = b) := Lib.hid (by unfold great10; rw [hg, Bool.false_or, hb])
    have b1 : decide (40 < (t.n.length : Int)) = b := by rw [← hb]; congr 1; simp; omega
    clear hg
    clear hb
    go_wp2
    go_ret
    exact ⟨by rw [HG.out]; rfl, HC1.out⟩
end Go.Proofs.Ytodohgckncnipaa
/- The chapter's example: harbingerlaw10.lives. -/
namespace Go.Proofs.Ytodohgckncnipaa
open Go.RowKit

def livesD : TabD := ⟨[(97, 97)], [0], [[1], [2], [1]], [-1, 0, 0]⟩
theorem livesFair : Fair livesD := ⟨by decide, by decide, by decide, by decide, by intro l hl; simp only [livesD, List.mem_cons, List.not_mem_nil, or_false] at hl; rcases hl with rfl | rfl | rfl <;> decide⟩

theorem Elt.In.lit {α : Type} (E : Elt α) (w : World) (Y : List α) (e : TypeId) (hY : ∀ a ∈ Y, E.ok a) (n b : Nat) (hn : n = Y.length) (hb : b = w.heap.size) : E.In (w.alloc (.cells (E.encs Y).toArray e)) 0 (some ⟨b, 0, none⟩, n, n) Y := by
  subst hn hb
  exact ⟨rfl, Nat.le_refl _, _, 0, E.lit w Y e hY, fun _ => ⟨rfl, Nat.zero_le _⟩⟩
theorem livesTab (w : World) (e1 e2 e3 e4 e5 e6 e7 : TypeId) : TabIn (((((((w.alloc (.cells #[.int .i32 97, .int .i32 97] e1)).alloc (.cells #[.int .i64 0] e2)).alloc (.cells #[.int .i64 1] e3)).alloc (.cells #[.int .i64 2] e4)).alloc (.cells #[.int .i64 1] e5)).alloc (.cells #[.slice (some ⟨w.heap.size + 1 + 1, 0, none⟩) 1 1, .slice (some ⟨w.heap.size + 1 + 1 + 1, 0, none⟩) 1 1, .slice (some ⟨w.heap.size + 1 + 1 + 1 + 1, 0, none⟩) 1 1] e6)).alloc (.cells #[.int .i64 (-1), .int .i64 0, .int .i64 0] e7)) 0
    (some ⟨w.heap.size, 0, none⟩, 1, 1) (some ⟨w.heap.size + 1, 0, none⟩, 1, 1) (some ⟨w.heap.size + 1 + 1 + 1 + 1 + 1, 0, none⟩, 3, 3) (some ⟨w.heap.size + 1 + 1 + 1 + 1 + 1 + 1, 0, none⟩, 3, 3) livesD := by
  have al : ∀ (w : World) (o : Obj), Chg (fun _ => False) w (w.alloc o) := fun w o => (Chg.refl _ _).alloc o
  obtain ⟨a1, h1⟩ : ∃ x, x = w.alloc (.cells #[.int .i32 97, .int .i32 97] e1) := ⟨_, rfl⟩
  obtain ⟨a2, h2⟩ : ∃ x, x = a1.alloc (.cells #[.int .i64 0] e2) := ⟨_, rfl⟩
  obtain ⟨a3, h3⟩ : ∃ x, x = a2.alloc (.cells #[.int .i64 1] e3) := ⟨_, rfl⟩
  obtain ⟨a4, h4⟩ : ∃ x, x = a3.alloc (.cells #[.int .i64 2] e4) := ⟨_, rfl⟩
  obtain ⟨a5, h5⟩ : ∃ x, x = a4.alloc (.cells #[.int .i64 1] e5) := ⟨_, rfl⟩
  obtain ⟨a6, h6⟩ : ∃ x, x = a5.alloc (.cells #[.slice (some ⟨w.heap.size + 1 + 1, 0, none⟩) 1 1, .slice (some ⟨w.heap.size + 1 + 1 + 1, 0, none⟩) 1 1, .slice (some ⟨w.heap.size + 1 + 1 + 1 + 1, 0, none⟩) 1 1] e6) := ⟨_, rfl⟩
  obtain ⟨a7, h7⟩ : ∃ x, x = a6.alloc (.cells #[.int .i64 (-1), .int .i64 0, .int .i64 0] e7) := ⟨_, rfl⟩
  have s1 : a1.heap.size = w.heap.size + 1 := by rw [h1]; simp
  have s2 : a2.heap.size = w.heap.size + 2 := by rw [h2]; simp [s1]
  have s3 : a3.heap.size = w.heap.size + 3 := by rw [h3]; simp [s2]
  have s4 : a4.heap.size = w.heap.size + 4 := by rw [h4]; simp [s3]
  have s5 : a5.heap.size = w.heap.size + 5 := by rw [h5]; simp [s4]
  have s6 : a6.heap.size = w.heap.size + 6 := by rw [h6]; simp [s5]
  have C := Elt.In.lit intE a1 [0] e2 (show ∀ a ∈ ([0] : List Int), I.Byte a by decide) 1 (w.heap.size + 1) rfl s1.symm
  have N1 := Elt.In.lit intE a2 [1] e3 (show ∀ a ∈ ([1] : List Int), I.Byte a by decide) 1 (w.heap.size + 1 + 1) rfl (by omega)
  have N2 := Elt.In.lit intE a3 [2] e4 (show ∀ a ∈ ([2] : List Int), I.Byte a by decide) 1 (w.heap.size + 1 + 1 + 1) rfl (by omega)
  have N3 := Elt.In.lit intE a4 [1] e5 (show ∀ a ∈ ([1] : List Int), I.Byte a by decide) 1 (w.heap.size + 1 + 1 + 1 + 1) rfl (by omega)
  have NN := Elt.In.lit listE a5 [(some ⟨w.heap.size + 1 + 1, 0, none⟩, 1, 1), (some ⟨w.heap.size + 1 + 1 + 1, 0, none⟩, 1, 1), (some ⟨w.heap.size + 1 + 1 + 1 + 1, 0, none⟩, 1, 1)] e6 (fun _ _ => trivial) 3 (w.heap.size + 1 + 1 + 1 + 1 + 1) rfl (by omega)
  have EE := Elt.In.lit intE a6 [-1, 0, 0] e7 (show ∀ a ∈ ([-1, 0, 0] : List Int), I.Byte a by decide) 3 (w.heap.size + 1 + 1 + 1 + 1 + 1 + 1) rfl (by omega)
  have R : rngE.In a1 0 (some ⟨w.heap.size, 0, none⟩, 1, 1) [(97, 97)] := by rw [h1]; exact Elt.In.lit rngE w [(97, 97)] e1 (show ∀ a ∈ ([(97, 97)] : List (Int × Int)), okRng a by decide) 1 w.heap.size rfl rfl
  have C : intE.In a2 0 (some ⟨w.heap.size + 1, 0, none⟩, 1, 1) [0] := by rw [h2]; exact C
  have N1 : intE.In a3 0 (some ⟨w.heap.size + 1 + 1, 0, none⟩, 1, 1) [1] := by rw [h3]; exact N1
  have N2 : intE.In a4 0 (some ⟨w.heap.size + 1 + 1 + 1, 0, none⟩, 1, 1) [2] := by rw [h4]; exact N2
  have N3 : intE.In a5 0 (some ⟨w.heap.size + 1 + 1 + 1 + 1, 0, none⟩, 1, 1) [1] := by rw [h5]; exact N3
  have NN : listE.In a6 0 (some ⟨w.heap.size + 1 + 1 + 1 + 1 + 1, 0, none⟩, 3, 3) [(some ⟨w.heap.size + 1 + 1, 0, none⟩, 1, 1), (some ⟨w.heap.size + 1 + 1 + 1, 0, none⟩, 1, 1), (some ⟨w.heap.size + 1 + 1 + 1 + 1, 0, none⟩, 1, 1)] := by rw [h6]; exact NN
  have EE : intE.In a7 0 (some ⟨w.heap.size + 1 + 1 + 1 + 1 + 1 + 1, 0, none⟩, 3, 3) [-1, 0, 0] := by rw [h7]; exact EE
  have c2 : Chg (fun _ => False) a1 a2 := by rw [h2]; exact al _ _
  have c3 : Chg (fun _ => False) a2 a3 := by rw [h3]; exact al _ _
  have c4 : Chg (fun _ => False) a3 a4 := by rw [h4]; exact al _ _
  have c5 : Chg (fun _ => False) a4 a5 := by rw [h5]; exact al _ _
  have c6 : Chg (fun _ => False) a5 a6 := by rw [h6]; exact al _ _
  have c7 : Chg (fun _ => False) a6 a7 := by rw [h7]; exact al _ _
  rw [← h1, ← h2, ← h3, ← h4, ← h5, ← h6, ← h7]
  refine ⟨R.same (c2.trans (c3.trans (c4.trans (c5.trans (c6.trans c7))))), C.same (c3.trans (c4.trans (c5.trans (c6.trans c7)))), ⟨_, NN.same c7, rfl, fun j x l hx hl => ?_⟩, EE⟩
  match j with
  | 0 =>
    simp [livesD] at hx hl
    subst hx hl
    exact N1.same (c4.trans (c5.trans (c6.trans c7)))
  | 1 =>
    simp [livesD] at hx hl
    subst hx hl
    exact N2.same (c5.trans (c6.trans c7))
  | 2 =>
    simp [livesD] at hx hl
    subst hx hl
    exact N3.same (c6.trans c7)
  | j + 3 => simp at hx

def livesM : TabD := ⟨[(97, 97)], [0], [[1], [1]], [-1, 0]⟩
def livesU : TabD := ⟨[], [], [[]], [-1]⟩
theorem livesLeast : leastT livesD = livesM := by kernel_rfl
theorem livesMay : mayT livesD = true := by kernel_rfl
theorem livesS0 : stepT livesM 0 97 = 1 := by kernel_rfl
theorem livesS1 : stepT livesM 1 97 = 1 := by kernel_rfl
theorem livesA1 : alikeB livesD livesM = true := by kernel_rfl
theorem livesA2 : alikeB livesD livesU = false := by kernel_rfl
theorem livesFairM : Fair livesM := ⟨by decide, by decide, by decide, by decide, by intro l hl; simp only [livesM, List.mem_cons, List.not_mem_nil, or_false] at hl; rcases hl with rfl | rfl <;> decide⟩
theorem livesFairU : Fair livesU := ⟨by decide, by decide, by decide, by decide, by intro l hl; simp only [livesU, List.mem_cons, List.not_mem_nil, or_false] at hl; subst hl; decide⟩
theorem livesTabU (w : World) (e1 e2 : TypeId) : TabIn ((w.alloc (.cells #[.slice none 0 0] e1)).alloc (.cells #[.int .i64 (-1)] e2)) 0 (none, 0, 0) (none, 0, 0) (some ⟨w.heap.size, 0, none⟩, 1, 1) (some ⟨w.heap.size + 1, 0, none⟩, 1, 1) livesU := by
  have al : ∀ (w : World) (o : Obj), Chg (fun _ => False) w (w.alloc o) := fun w o => (Chg.refl _ _).alloc o
  have s1 : (w.alloc (.cells #[.slice none 0 0] e1)).heap.size = w.heap.size + 1 := by simp
  have NN := Elt.In.lit listE w [(none, 0, 0)] e1 (fun _ _ => trivial) 1 w.heap.size rfl rfl
  have EE := Elt.In.lit intE (w.alloc (.cells #[.slice none 0 0] e1)) [-1] e2 (show ∀ a ∈ ([-1] : List Int), I.Byte a by decide) 1 (w.heap.size + 1) rfl s1.symm
  have nl : ∀ {α : Type} (E : Elt α) (w : World), E.In w 0 (none, 0, 0) [] := fun E w => ⟨rfl, Nat.le_refl _, 0, 0, .nil _ _ _ _, fun h => absurd h (by simp)⟩
  refine ⟨nl _ _, nl _ _, ⟨_, NN.same (al _ _), rfl, fun j x l hx hl => ?_⟩, EE⟩
  match j with
  | 0 =>
    simp [livesU] at hx hl
    subst hx hl
    exact nl _ _
  | j + 1 => simp at hx

set_option maxRecDepth 100000 in
set_option maxHeartbeats 8000000 in
theorem lives_any (w : World) : Calls Try.prog 8 #[] w fun e w' => e = .returned (.bool true) ∧ Chg (fun _ => False) w w' := by
  have HTB := Lib.hid (livesTab w 54 3 3 3 3 23 3)
  obtain ⟨wt, hwt⟩ : ∃ x, x = (((((((w.alloc (.cells #[.int .i32 97, .int .i32 97] 54)).alloc (.cells #[.int .i64 0] 3)).alloc (.cells #[.int .i64 1] 3)).alloc (.cells #[.int .i64 2] 3)).alloc (.cells #[.int .i64 1] 3)).alloc (.cells #[.slice (some ⟨w.heap.size + 1 + 1, 0, none⟩) 1 1, .slice (some ⟨w.heap.size + 1 + 1 + 1, 0, none⟩) 1 1, .slice (some ⟨w.heap.size + 1 + 1 + 1 + 1, 0, none⟩) 1 1] 23)).alloc (.cells #[.int .i64 (-1), .int .i64 0, .int .i64 0] 3)) := ⟨_, rfl⟩
  rw [← hwt] at HTB
  have HC0 : Hid (Chg (fun _ => False) w wt) := Lib.hid (by rw [hwt]; exact (((((((Chg.refl _ _).alloc _).alloc _).alloc _).alloc _).alloc _).alloc _).alloc _)
  have HWT := Lib.hid hwt
  clear hwt
  go_enter Try.func8, Try.ntmps8
  go_upto_region 2 with (fail)
  rw [← HWT.out]
  obtain ⟨wb, hwb⟩ : ∃ x, wt.alloc (.cells #[.slice (some ⟨w.heap.size, 0, none⟩) 1 1, .slice (some ⟨w.heap.size + 1, 0, none⟩) 1 1, .slice (some ⟨w.heap.size + 1 + 1 + 1 + 1 + 1, 0, none⟩) 3 3, .slice (some ⟨w.heap.size + 1 + 1 + 1 + 1 + 1 + 1, 0, none⟩) 3 3] 26) = x := ⟨_, rfl⟩
  have hsz : wt.heap.size = w.heap.size + 1 + 1 + 1 + 1 + 1 + 1 + 1 := by rw [HWT.out]; simp
  have HCB : Hid (Chg (fun _ => False) wt wb) := Lib.hid (by rw [← hwb]; exact (Chg.refl _ _).alloc _)
  have HBB : Hid (BoxT wb wt.heap.size (some ⟨w.heap.size, 0, none⟩, 1, 1) (some ⟨w.heap.size + 1, 0, none⟩, 1, 1) (some ⟨w.heap.size + 1 + 1 + 1 + 1 + 1, 0, none⟩, 3, 3) (some ⟨w.heap.size + 1 + 1 + 1 + 1 + 1 + 1, 0, none⟩, 3, 3)) := Lib.hid (by rw [← hwb]; exact tabBox wt (some ⟨w.heap.size, 0, none⟩, 1, 1) (some ⟨w.heap.size + 1, 0, none⟩, 1, 1) (some ⟨w.heap.size + 1 + 1 + 1 + 1 + 1, 0, none⟩, 3, 3) (some ⟨w.heap.size + 1 + 1 + 1 + 1 + 1 + 1, 0, none⟩, 3, 3) 26)
  rw [hsz] at HBB
  have HTW := Lib.hid (HTB.out.same HCB.out)
  have HCC := Lib.hid (HC0.out.trans HCB.out)
  rw [hwb]
  clear hwb hsz
  obtain ⟨b1, hb1⟩ : ∃ X, w.heap.size + 1 + 1 + 1 + 1 + 1 + 1 + 1 = X := ⟨_, rfl⟩
  rw [hb1] at HBB ⊢
  have q0 : wb.cell? ⟨b1, 0, none⟩ = some (.slice (some ⟨w.heap.size, 0, none⟩) 1 1) := HBB.out.1
  have q1 : wb.cell? ⟨b1, 1, none⟩ = some (.slice (some ⟨w.heap.size + 1, 0, none⟩) 1 1) := HBB.out.2.1
  have q2 : wb.cell? ⟨b1, 2, none⟩ = some (.slice (some ⟨w.heap.size + 1 + 1 + 1 + 1 + 1, 0, none⟩) 3 3) := HBB.out.2.2.1
  have q3 : wb.cell? ⟨b1, 3, none⟩ = some (.slice (some ⟨w.heap.size + 1 + 1 + 1 + 1 + 1 + 1, 0, none⟩) 3 3) := HBB.out.2.2.2
  clear hb1
  go_wp2_with fail
  refine (least_any livesD _ _ _ _ 0 wb HTW.out livesFair).mono ?_
  intro e w1 hp
  unfold LeastOwn at hp
  rw [if_pos livesMay] at hp
  obtain ⟨⟨ra, rn, rc⟩, ⟨ca, cn, cc⟩, ⟨na, nn, nc⟩, ⟨ea, en, ec⟩, τ, he, ho, hc⟩ := hp
  have he : e = .returned (.tuple #[.agg #[.slice ra rn rc, .slice ca cn cc, .slice na nn nc, .slice ea en ec], .int .i64 0]) := he
  subst he
  rw [livesLeast] at ho
  have HC1 := Lib.hid (HCC.out.trans hc)
  have HT1 := Lib.hid ho.tab
  obtain rfl : rn = 1 := ho.tab.r.len.1
  obtain rfl : cn = 1 := ho.tab.c.len.1
  obtain rfl : nn = 2 := ho.tab.n.len.1
  obtain rfl : en = 2 := ho.tab.e.len.1
  obtain ⟨x0, ge, oe, hx0, hea, d0, -⟩ := ho.tab.e.getI (k := 0) (by decide)
  subst hea
  obtain ⟨x1, ge', oe', hx1, hea, d1, -⟩ := ho.tab.e.getI (k := 1) (by decide)
  injection hea with hea
  injection hea with f1 f2
  subst f1 f2
  rw [Nat.add_zero] at d0
  obtain rfl : -1 = x0 := Option.some.inj hx0
  obtain rfl : 0 = x1 := Option.some.inj hx1
  obtain ⟨w2, hw2⟩ : ∃ X, X = w1.alloc (.cells #[.slice ra 1 rc, .slice ca 1 cc, .slice na 2 nc, .slice (some ⟨ge, oe, none⟩) 2 ec] 26) := ⟨_, rfl⟩
  have hc2 : Chg (fun _ => False) w1 w2 := by rw [hw2]; exact (Chg.refl _ _).alloc _
  have HC2 := Lib.hid (HC1.out.trans hc2)
  have HB2 : Hid (BoxT w2 w1.heap.size (ra, 1, rc) (ca, 1, cc) (na, 2, nc) (some ⟨ge, oe, none⟩, 2, ec)) := Lib.hid (by rw [hw2]; exact tabBox w1 (ra, 1, rc) (ca, 1, cc) (na, 2, nc) (some ⟨ge, oe, none⟩, 2, ec) 26)
  have HT2 := Lib.hid (HT1.out.same hc2)
  have HBB2 := Lib.hid ((HBB.out.chg hc (fun h => h)).chg hc2 (fun h => h))
  have HTD2 := Lib.hid (HTW.out.same (hc.trans hc2))
  have HDD := Lib.hid (show _ ∧ _ from ⟨hc2.cellS d0 (fun h => h), hc2.cellS d1 (fun h => h)⟩)
  have HW2 := Lib.hid hw2
  have p0 : w2.cell? ⟨w1.heap.size, 0, none⟩ = some (.slice ra 1 rc) := HB2.out.1
  have p1 : w2.cell? ⟨w1.heap.size, 1, none⟩ = some (.slice ca 1 cc) := HB2.out.2.1
  have p2 : w2.cell? ⟨w1.heap.size, 2, none⟩ = some (.slice na 2 nc) := HB2.out.2.2.1
  have p3 : w2.cell? ⟨w1.heap.size, 3, none⟩ = some (.slice (some ⟨ge, oe, none⟩) 2 ec) := HB2.out.2.2.2
  clear hw2 hc hc2 ho q0 q1 q2 q3 d0 d1 hx0 hx1
  go_upto_region 3 with (fail)
  rw [← HW2.out]
  go_wp2_with fail
  refine (step_any livesM _ _ _ _ _ 0 97 w2 HT2.out livesFairM (by constructor <;> decide)).mono ?_
  rintro e w3 ⟨rfl, hc⟩
  rw [livesS0]
  have HC3 := Lib.hid hc
  have p0 := hc.cellS p0 (fun h => h)
  have p1 := hc.cellS p1 (fun h => h)
  have p2 := hc.cellS p2 (fun h => h)
  have p3 := hc.cellS p3 (fun h => h)
  clear hc
  go_wp2_with fail
  refine (step_any livesM _ _ _ _ _ 1 97 w3 (HT2.out.same HC3.out) livesFairM (by constructor <;> decide)).mono ?_
  rintro e w4 ⟨rfl, hc⟩
  rw [livesS1]
  have HC4 := Lib.hid (HC3.out.trans hc)
  have p0 := hc.cellS p0 (fun h => h)
  have p1 := hc.cellS p1 (fun h => h)
  have p2 := hc.cellS p2 (fun h => h)
  have p3 := hc.cellS p3 (fun h => h)
  have d0 := HC4.out.cellS HDD.out.1 (fun h => h)
  have d1 := HC4.out.cellS HDD.out.2 (fun h => h)
  have q0 := HC4.out.cellS HBB2.out.1 (fun h => h)
  have q1 := HC4.out.cellS HBB2.out.2.1 (fun h => h)
  have q2 := HC4.out.cellS HBB2.out.2.2.1 (fun h => h)
  have q3 := HC4.out.cellS HBB2.out.2.2.2 (fun h => h)
  clear hc
  go_wp2_with fail
  refine (alike_any livesD livesM _ _ _ _ (ra, 1, rc) (ca, 1, cc) (na, 2, nc) (some ⟨ge, oe, none⟩, 2, ec) 0 _ w4 (HTD2.out.same HC4.out) (HT2.out.same HC4.out) livesFair livesFairM).mono ?_
  rintro e w5 ⟨rfl, hc⟩
  rw [livesA1]
  have HC5 := Lib.hid (HC4.out.trans hc)
  have q0 := hc.cellS q0 (fun h => h)
  have q1 := hc.cellS q1 (fun h => h)
  have q2 := hc.cellS q2 (fun h => h)
  have q3 := hc.cellS q3 (fun h => h)
  have HU := Lib.hid (livesTabU w5 23 3)
  obtain ⟨w6, hw6⟩ : ∃ X, X = (w5.alloc (.cells #[.slice none 0 0] 23)).alloc (.cells #[.int .i64 (-1)] 3) := ⟨_, rfl⟩
  rw [← hw6] at HU
  have HC6 : Hid (Chg (fun _ => False) w5 w6) := Lib.hid (by rw [hw6]; exact ((Chg.refl _ _).alloc _).alloc _)
  have HW6 := Lib.hid hw6
  clear hc p0 p1 p2 p3 d0 d1 hw6
  go_wp2_with fail
  rw [← HW6.out]
  refine (alike_any livesD livesU _ _ _ _ _ _ _ _ 0 0 w6 (HTD2.out.same (HC5.out.trans HC6.out)) HU.out livesFair livesFairU).mono ?_
  rintro e w7 ⟨rfl, hc⟩
  rw [livesA2]
  have HC7 := Lib.hid (HC2.out.trans (HC5.out.trans (HC6.out.trans hc)))
  clear hc q0 q1 q2 q3
  go_wp2
  go_ret
  exact ⟨rfl, HC7.out⟩
end Go.Proofs.Ytodohgckncnipaa
