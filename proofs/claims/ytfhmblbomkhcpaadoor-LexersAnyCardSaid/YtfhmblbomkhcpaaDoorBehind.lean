/- Bytes that are no rune's, behind an input: harbingerlaw11.LexersBehind. -/
import Derived.Test.YtfhmblbomkhcpaaDoorGreat9
import Derived.Test.YtfhmblbomkhcpaaDoorLexL
namespace Go.Proofs.YtfhmblbomkhcpaaDoor
open Go.RowKit

section
variable {α : Type}
/-- make, in a region that holds. -/
theorem Elt.held_make (E : Elt α) {ops : Array Oper} {Q : Exit → Act → World → Prop} {md : Region.Mode} {S : World → Prop} {i : Nat} {oi : Oper} {fuel : Nat} {listed : Array Bool} {a : Act} {w : World} (hr : Region.ready md ops listed = [i]) (hi : ops[i]? = some oi)
    (hw : Region.wanted oi (yielded ops a.tmps) = true) (l c : Operand) (tl : TypeId) (htl : tl = E.sl) (hop : oi.op = Op.makeSlice tl l c) (kl kc : IntKind) (k n : Nat) (hl : a.eval l = .int kl k) (hc : a.eval c = .int kc n) (hkn : k ≤ n) (hn : n ≤ 1000000000000)
    (hS : ∀ w', Chg (fun _ => False) w w' → S w')
    (h : ∀ w', Hid (E.In w' w.heap.size (some ⟨w.heap.size, 0, none⟩, k, n) (List.replicate k E.z)) → Hid (E.Row w' w.heap.size (List.replicate n E.z)) → Hid (Chg (fun _ => False) w w') → Hid (w.heap.size < w'.heap.size) → ∀ K : Act → Prop, (∀ a, wpAnyH Tryd.prog md ops Q S fuel (listed.setIfInBounds i true) a w' → K a) → K (a.put oi.dst (.slice (some ⟨w.heap.size, 0, none⟩) k n))) :
    wpAnyH Tryd.prog md ops Q S (fuel + 1) listed a w := by
  subst htl
  obtain ⟨y, hy, hz, h1, h2⟩ := info_parts E.info
  have hbs : y.bytes * n ≤ 100 * 1000000000000 := Nat.mul_le_mul (by rw [h2]; exact E.bsl) hn
  have hrn := run_make (P := Tryd.prog) w E.sl E.e y E.zv E.und hy hz kl kc k n (by omega) (by omega) (by rw [← Int.natCast_mul]; omega) (by omega)
  rw [h1] at hrn
  simp only [Int.toNat_natCast] at hrn
  rw [madeCellsE] at hrn
  have hrow := Elt.Row.alloc (E := E) w (List.replicate n E.z) E.e (fun a ha => by rw [List.mem_replicate] at ha; rw [ha.2]; exact E.zok)
  refine held_turn hr hi hw (fun K hK => ⟨.slice (some ⟨w.heap.size, 0, none⟩) k n, w.alloc (.cells (E.encs (List.replicate n E.z)).toArray E.e), ?_, hS _ ((Chg.refl _ _).alloc _), ?_⟩)
  · simp [execOp, hop, hl, hc, hrn, Result.andThen]
  · exact h _ (Lib.hid ⟨by simp, hkn, w.heap.size, 0, hrow.at' (by
      refine ⟨List.replicate (n - k) E.z, ?_⟩
      rw [List.replicate_append_replicate, Nat.add_sub_cancel' hkn]), fun _ => ⟨rfl, Nat.le_refl _⟩⟩) (Lib.hid hrow) (Lib.hid ((Chg.refl _ _).alloc _)) (Lib.hid (by simp)) _ (fun a ha => hK a _ ha)
end

theorem toksL_ff {t : TabD} (ht : MayS t) {s : ByteArray} (hs : s.size ≤ 1000) :
    ((toksL t noDrop s).2.2 = 0 ∧ (toksL t noDrop (s ++ ff)).2.2 = 9 ∧ (toksL t noDrop (s ++ ff)).2.1 = (s.size : Int)) ∨ ((toksL t noDrop s).2.2 = 9 ∧ (toksL t noDrop (s ++ ff)).2.2 = 9 ∧ (toksL t noDrop (s ++ ff)).2.1 = (toksL t noDrop s).2.1) := by
  have hz := size_ff s
  unfold toksL
  rw [if_neg (by omega), if_neg (by omega)]
  rcases toks_ff ht (s := s) s.size 0 [] (by omega) (by omega) (by simp; omega) with ⟨L, h1, h2⟩ | ⟨p, h1, h2⟩
  · exact .inl (by rw [h1, h2]; exact ⟨rfl, rfl, rfl⟩)
  · exact .inr (by rw [h1, h2]; exact ⟨rfl, rfl, rfl⟩)
theorem newOk_99 {t : TabD} (h : mayT t = true) (he : ∀ (j : Nat) e, j < t.e.length → t.e[j]? = some e → e ≤ 99) : newOk t noDrop = true :=
  newOk_good h (fun e hm => by
    obtain ⟨j, hj⟩ := List.getElem?_of_mem hm
    have := he j e (List.getElem?_eq_some_iff.1 hj).1 hj
    simp [noDrop]
    omega)

set_option maxRecDepth 100000 in
set_option maxHeartbeats 8000000 in
theorem behind_any (t : TabD) (rs cs ns es : Sl) (B : Nat) (s : ByteArray) (w : World) (h : TabIn w B rs cs ns es t) (hv : Vast t) (hT : Tabs w) :
    Calls Tryd.prog 6 #[tabV rs cs ns es, .string s] w fun e w' => e = .returned (.bool true) ∧ Chg (fun _ => False) w w' := by
  have HT := Lib.hid hT
  have HTB := Lib.hid h
  have HV := Lib.hid hv
  obtain ⟨ra, rn, rc⟩ := rs
  obtain ⟨ca, cn, cc⟩ := cs
  obtain ⟨na, nn, nc⟩ := ns
  obtain ⟨ea, en, ec⟩ := es
  obtain ⟨rfl, he1⟩ := h.e.len
  clear h hv hT
  obtain ⟨wa, hwa⟩ : ∃ x, x = w.alloc (.cells #[.slice ra rn rc, .slice ca cn cc, .slice na nn nc, .slice ea t.e.length ec] 26) := ⟨_, rfl⟩
  have HT0 : Hid (∀ wx, Chg (fun _ => False) wa wx → (wx.cell? ⟨w.heap.size, 0, none⟩ = some (.slice ra rn rc) ∧ wx.cell? ⟨w.heap.size, 1, none⟩ = some (.slice ca cn cc) ∧ wx.cell? ⟨w.heap.size, 2, none⟩ = some (.slice na nn nc) ∧ wx.cell? ⟨w.heap.size, 3, none⟩ = some (.slice ea t.e.length ec))) := Lib.hid (fun wx hx => by
    subst hwa
    exact (tabBox w (ra, rn, rc) (ca, cn, cc) (na, nn, nc) (ea, t.e.length, ec) 26).chg hx (fun h => h))
  have HC0 : Hid (Chg (fun _ => False) w wa) := Lib.hid (by rw [hwa]; exact (Chg.refl _ _).alloc _)
  have HWA := Lib.hid hwa
  clear hwa
  obtain ⟨q0, q1, q2, q3⟩ := HT0.out wa (Chg.refl _ _)
  show Calls Tryd.prog 6 #[.agg #[.slice ra rn rc, .slice ca cn cc, .slice na nn nc, .slice ea t.e.length ec], .string s] w _
  cases hgr : greatT t with
  | true =>
    have HG := Lib.hid hgr
    clear hgr
    go_enter Tryd.func6, Tryd.ntmps6
    go_upto_region 1 with (fail)
    rw [← HWA.out]
    go_wp2_with fail
    refine (great_any t (ra, rn, rc) (ca, cn, cc) (na, nn, nc) (ea, t.e.length, ec) B wa (HTB.out.same HC0.out) HV.out).mono ?_
    rintro e w1 ⟨rfl, hc⟩
    rw [HG.out]
    have HC1 := Lib.hid (HC0.out.trans hc)
    clear hc q0 q1 q2 q3
    go_wp2_with fail
    refine (lives_any w1 (HT.out.same HC1.out)).mono ?_
    rintro e w2 ⟨rfl, hc⟩
    have HC2 := Lib.hid (HC1.out.trans hc)
    clear hc
    go_wp2
    go_ret
    exact ⟨rfl, HC2.out⟩
  | false =>
    have HG := Lib.hid hgr
    have HF := Lib.hid (greatT_fair hgr).1
    have hel : t.e.length ≤ 6000 := (greatT_fair hgr).2
    clear hgr
    by_cases hsz : 1000 < s.size
    · have d1 : decide (1000 < (s.size : Int)) = true := by simp; omega
      have d2 : decide (1000 < s.size) = true := by simp; omega
      go_enter Tryd.func6, Tryd.ntmps6
      go_upto_region 1 with (fail)
      rw [← HWA.out]
      go_wp2_with fail
      refine (great_any t (ra, rn, rc) (ca, cn, cc) (na, nn, nc) (ea, t.e.length, ec) B wa (HTB.out.same HC0.out) HV.out).mono ?_
      rintro e w1 ⟨rfl, hc⟩
      rw [HG.out]
      have HC1 := Lib.hid (HC0.out.trans hc)
      clear hc q0 q1 q2 q3
      go_wp2_with fail
      refine (lives_any w1 (HT.out.same HC1.out)).mono ?_
      rintro e w2 ⟨rfl, hc⟩
      have HC2 := Lib.hid (HC1.out.trans hc)
      clear hc
      go_wp2
      go_ret
      exact ⟨rfl, HC2.out⟩
    · have d1 : decide (1000 < (s.size : Int)) = false := by simp; omega
      have d2 : decide (1000 < s.size) = false := by simp; omega
      cases hm : mayT t with
      | false =>
        have HM := Lib.hid hm
        clear hm
        go_enter Tryd.func6, Tryd.ntmps6
        go_upto_region 1 with (fail)
        rw [← HWA.out]
        go_wp2_with fail
        refine (great_any t (ra, rn, rc) (ca, cn, cc) (na, nn, nc) (ea, t.e.length, ec) B wa (HTB.out.same HC0.out) HV.out).mono ?_
        rintro e w1 ⟨rfl, hc⟩
        rw [HG.out]
        have HC1 := Lib.hid (HC0.out.trans hc)
        have HT1 := Lib.hid (HT0.out w1 hc)
        clear hc q0 q1 q2 q3
        obtain ⟨q0, q1, q2, q3⟩ := HT1.out
        go_wp2_with fail
        refine (may_any t (ra, rn, rc) (ca, cn, cc) (na, nn, nc) (ea, t.e.length, ec) B w1 (HTB.out.same HC1.out) HF.out).mono ?_
        rintro e w2 ⟨rfl, hc⟩
        rw [HM.out]
        have HC2 := Lib.hid (HC1.out.trans hc)
        clear hc q0 q1 q2 q3
        go_wp2_with fail
        refine (lives_any w2 (HT.out.same HC2.out)).mono ?_
        rintro e w3 ⟨rfl, hc⟩
        have HC3 := Lib.hid (HC2.out.trans hc)
        clear hc
        go_wp2
        go_ret
        exact ⟨rfl, HC3.out⟩
      | true =>
        have HM := Lib.hid hm
        clear hm
        go_enter Tryd.func6, Tryd.ntmps6
        go_upto_region 1 with (fail)
        rw [← HWA.out]
        go_wp2_with fail
        refine (great_any t (ra, rn, rc) (ca, cn, cc) (na, nn, nc) (ea, t.e.length, ec) B wa (HTB.out.same HC0.out) HV.out).mono ?_
        rintro e w1 ⟨rfl, hc⟩
        rw [HG.out]
        have HC1 := Lib.hid (HC0.out.trans hc)
        have HC01 := Lib.hid hc
        clear hc q0 q1 q2 q3
        obtain ⟨q0, q1, q2, q3⟩ := HT0.out w1 HC01.out
        go_wp2_with fail
        refine (may_any t (ra, rn, rc) (ca, cn, cc) (na, nn, nc) (ea, t.e.length, ec) B w1 (HTB.out.same HC1.out) HF.out).mono ?_
        rintro e w2 ⟨rfl, hc⟩
        rw [HM.out]
        have HC2 := Lib.hid (HC1.out.trans hc)
        have HC02 := Lib.hid (HC01.out.trans hc)
        clear hc q0 q1 q2 q3
        go_wp2_with fail
        refine (bad_any s w2 (HT.out.same HC2.out) (by omega)).mono ?_
        rintro e w3 ⟨⟨x, rfl⟩, hc⟩
        have HC3 := Lib.hid (HC2.out.trans hc)
        have HC03 := Lib.hid (HC02.out.trans hc)
        clear hc
        by_cases hx : 0 ≤ x
        · have d5 : decide (0 ≤ x) = true := by simpa using hx
          go_wp2_with fail
          refine (lives_any w3 (HT.out.same HC3.out)).mono ?_
          rintro e w4 ⟨rfl, hc⟩
          have HC4 := Lib.hid (HC3.out.trans hc)
          clear hc
          go_wp2
          go_ret
          exact ⟨rfl, HC4.out⟩
        · have d5 : decide (0 ≤ x) = false := by simpa using hx
          obtain ⟨q0, q1, q2, q3⟩ := HT0.out w3 HC03.out
          go_wp2
          go_loopw [5] (fun q wr => ∃ k : Nat, k ≤ t.e.length ∧ q = .int .i64 k ∧ (∀ (j : Nat) e, j < k → t.e[j]? = some e → e ≤ 99) ∧ wr = w3) (fun q _ => t.e.length - (intOf q).toNat)
          case atStart => exact ⟨0, by omega, rfl, fun j e h => absurd h (Nat.not_lt_zero _), rfl⟩
          case round =>
            obtain ⟨k, hk, rfl, hb, rfl⟩ := hrel
            have HB := Lib.hid hb
            clear hb
            by_cases hkl : k < t.e.length
            · have b1 : decide ((k : Int) < (t.e.length : Int)) = true := by simp; omega
              obtain ⟨y, g, o, hy, hea, c0, y0, y1, -, -⟩ := (HTB.out.same HC3.out).e.getI hkl
              subst hea
              have HY := Lib.hid hy
              clear hy
              by_cases hy9 : 99 < y
              · have d6 : decide (99 < y) = true := by simpa using hy9
                go_wp2_with fail
                refine (lives_any wr (HT.out.same HC3.out)).mono ?_
                rintro e w4 ⟨rfl, hc⟩
                have HC4 := Lib.hid (HC3.out.trans hc)
                clear hc
                go_wp2
                go_ret
                exact ⟨rfl, HC4.out⟩
              · have d6 : decide (99 < y) = false := by simpa using hy9
                have HB2 : Hid (∀ (j : Nat) e, j < k + 1 → t.e[j]? = some e → e ≤ 99) := Lib.hid (fun j e hj he => by
                  by_cases hjk : j = k
                  · subst hjk; rw [HY.out] at he; obtain rfl := Option.some.inj he; omega
                  · exact HB.out j e (by omega) he)
                go_wp2
                go_roundw
                case rel => exact ⟨k + 1, by omega, by go_num, HB2.out, by first | rfl | trivial⟩
                case measure => simp [intOf]; omega
            · obtain rfl : k = t.e.length := by omega
              have b1 : decide ((t.e.length : Int) < (t.e.length : Int)) = false := by simp
              have HN := Lib.hid (newOk_99 HM.out HB.out)
              go_upto_region 8 with (fail)
              refine wp_region_held (S := Chg (fun _ => False) wr) (by kernel_rfl) ?_
              show wpAnyH _ _ _ _ _ 8 (Array.replicate 8 false) _ wr.drew
              obtain ⟨wd, hwd⟩ : ∃ x, wr.drew = x := ⟨_, rfl⟩
              have HSS : Hid (Chg (fun _ => False) wr wd) := Lib.hid (by rw [← hwd]; exact (Chg.refl _ _).drew)
              rw [hwd]
              clear hwd q0 q1 q2 q3
              (refine held_read (i := 0) rfl (by kernel_rfl) (by kernel_rfl) (by kernel_rfl) (fun _ _ _ _ h => h) rfl HSS.out (fun K hK => ?_); apply Exists.intro; refine ⟨fun w' hC => ?_, ?_⟩; ((obtain ⟨q0, q1, q2, q3⟩ := HT0.out w' (HC03.out.trans hC)); go_simp; try with_reducible rfl); (try go_simp); refine hK _ ?_; clear hK K)
              refine boolE.held_make (i := 1) (by kernel_rfl) rfl rfl _ _ _ rfl rfl .i64 .i64 100 100 rfl rfl (by omega) (by omega) (fun w' hc => HSS.out.trans hc) ?_
              intro wm HI HROW HCM HSM K hK
              (try go_simp)
              refine hK _ ?_
              clear hK K HROW HSM
              have HSX := Lib.hid (HSS.out.trans HCM.out)
              refine held_call (i := 2) (by kernel_rfl) rfl rfl 10 #[.agg #[.slice ra rn rc, .slice ca cn cc, .slice na nn nc, .slice ea t.e.length ec], .slice (some ⟨wd.heap.size, 0, none⟩) 100 100] (fun v w'' => ∃ b rs cs ns es ds, v = .tuple #[.pointer (some ⟨b, 0, none⟩), .int .i64 0] ∧ LexAt w'' b wm.heap.size rs cs ns es ds t noDrop) (by go_simp) ?_ ?_
              · refine (new_any t noDrop (ra, rn, rc) (ca, cn, cc) (na, nn, nc) (ea, t.e.length, ec) (some ⟨wd.heap.size, 0, none⟩, 100, 100) 0 wm ((HTB.out.same (HC3.out.trans HSX.out)).lower (Nat.zero_le _)) HF.out (HI.out.lower (Nat.zero_le _)) (by simp [noDrop])).mono ?_
                intro e wy hp
                unfold NewPostP at hp
                rw [if_pos HN.out] at hp
                obtain ⟨b, rs', cs', ns', es', ds', rfl, hlex, -, -, hc⟩ := hp
                exact ⟨_, rfl, HSX.out.trans hc, b, rs', cs', ns', es', ds', rfl, hlex⟩
              rintro v w4 hs ⟨b, rs', cs', ns', es', ds', rfl, hlex⟩ K hK
              have HLX := Lib.hid hlex
              have HC4 := Lib.hid (HC3.out.trans hs)
              have HSS := Lib.hid hs
              clear hlex hs
              (try go_simp)
              refine hK _ ?_
              clear hK K
              (refine held_read (i := 3) rfl (by kernel_rfl) (by kernel_rfl) (by kernel_rfl) (fun _ _ _ _ h => h) rfl HSS.out (fun K hK => ?_); apply Exists.intro; refine ⟨fun w' hC => ?_, ?_⟩; ((skip); go_simp; try with_reducible rfl); (try go_simp); refine hK _ ?_; clear hK K)
              (refine held_read (i := 4) rfl (by kernel_rfl) (by kernel_rfl) (by kernel_rfl) (fun _ _ _ _ h => h) rfl HSS.out (fun K hK => ?_); apply Exists.intro; refine ⟨fun w' hC => ?_, ?_⟩; ((skip); go_simp; try with_reducible rfl); (try go_simp); refine hK _ ?_; clear hK K)
              (refine held_read (i := 5) rfl (by kernel_rfl) (by kernel_rfl) (by kernel_rfl) (fun _ _ _ _ h => h) rfl HSS.out (fun K hK => ?_); apply Exists.intro; refine ⟨fun w' hC => ?_, ?_⟩; ((skip); go_simp; try with_reducible rfl); (try go_simp); refine hK _ ?_; clear hK K)
              (refine held_one (i := 6) (by kernel_rfl) rfl rfl HSS.out (fun K hK => ?_); apply Exists.intro; refine ⟨?_, ?_⟩; ((skip); go_simp; try with_reducible rfl); (try go_simp); refine hK _ ?_; clear hK K)
              (refine held_one (i := 7) (by kernel_rfl) rfl rfl HSS.out (fun K hK => ?_); apply Exists.intro; refine ⟨?_, ?_⟩; ((skip); go_simp; try with_reducible rfl); (try go_simp); refine hK _ ?_; clear hK K)
              refine wpAnyH_done (by kernel_rfl) ?_ _
              go_wp2_with fail
              refine (toks_any b _ rs' cs' ns' es' ds' t noDrop s w4 HLX.out HF.out (newOk_spec HN.out).1 (HT.out.same HC4.out) (by omega) (newOk_spec HN.out).2).mono ?_
              rintro e w5 ⟨v1, rfl, -, hc⟩
              have HC5 := Lib.hid (HC4.out.trans hc)
              have HL5 := Lib.hid (HLX.out.same hc)
              have HE := Lib.hid (toksL_ff (newOk_spec HN.out).1 (s := s) (by omega))
              have hff : s.size + 1 ≤ 1001 := by omega
              have hfz : (s ++ ff).size = s.size + 1 := size_ff s
              obtain ⟨p, hp⟩ : ∃ p, (toksL t noDrop s).2.1 = p := ⟨_, rfl⟩
              obtain ⟨f, hf⟩ : ∃ p, (toksL t noDrop s).2.2 = p := ⟨_, rfl⟩
              rw [hp, hf] at HE ⊢
              clear hc hp hf
              go_wp2_with fail
              refine (toks_any b _ rs' cs' ns' es' ds' t noDrop (s ++ ff) w5 HL5.out HF.out (newOk_spec HN.out).1 (HT.out.same HC5.out) (by omega) (newOk_spec HN.out).2).mono ?_
              rintro e w6 ⟨v2, rfl, -, hc⟩
              have HC6 := Lib.hid (HC5.out.trans hc)
              obtain ⟨p2, hp2⟩ : ∃ p, (toksL t noDrop (s ++ ff)).2.1 = p := ⟨_, rfl⟩
              obtain ⟨f2, hf2⟩ : ∃ p, (toksL t noDrop (s ++ ff)).2.2 = p := ⟨_, rfl⟩
              rw [hp2, hf2] at HE ⊢
              clear hc hp2 hf2
              rcases HE.out with ⟨rfl, rfl, rfl⟩ | ⟨rfl, rfl, rfl⟩
              · go_wp2_with fail
                refine (lives_any w6 (HT.out.same HC6.out)).mono ?_
                rintro e w7 ⟨rfl, hc⟩
                have HC7 := Lib.hid (HC6.out.trans hc)
                clear hc
                go_wp2
                go_ret
                exact ⟨rfl, HC7.out⟩
              · go_wp2_with fail
                refine (lives_any w6 (HT.out.same HC6.out)).mono ?_
                rintro e w7 ⟨rfl, hc⟩
                have HC7 := Lib.hid (HC6.out.trans hc)
                clear hc
                go_wp2
                go_ret
                exact ⟨rfl, HC7.out⟩
end Go.Proofs.YtfhmblbomkhcpaaDoor
