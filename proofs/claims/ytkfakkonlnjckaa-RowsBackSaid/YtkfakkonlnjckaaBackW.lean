/- 'RowsBack': its walk. -/
import Derived.Test.YtkfakkonlnjckaaBackS
import Derived.Test.YtkfakkonlnjckaaGreat
import Derived.Test.YtkfakkonlnjckaaRowsW
import Derived.Test.YtkfakkonlnjckaaTakeTab
namespace Go.Proofs.Ytkfakkonlnjckaa
open Go.RowKit

theorem ownAt2 {w : World} {B : Nat} {v : Value} {X : List Int} (h : byteE.Own w B v X) : ∃ a g c, v = .slice a X.length c ∧ BytesAt w g 0 X ∧ (0 < X.length → a = some ⟨g, 0, none⟩) ∧ X.length ≤ c ∧ (a = none → c = 0) := by
  rcases byteOwn.1 h with ⟨rfl, rfl⟩ | ⟨g, C, rfl, _, h2, h3, _⟩
  · exact ⟨none, 0, 0, rfl, ⟨fun k a hk => by simp at hk, fun h => absurd rfl h⟩, fun h => absurd h (by simp), by simp, fun _ => rfl⟩
  · exact ⟨_, g, _, rfl, h2.bytes h3, fun _ => rfl, h3.length_le, fun e => by cases e⟩
theorem backNums {wd : Nat} {R : List RowD} {O : List Int} (h : mayL ((wd : Int), R, O) = true) (hwd : wd ≤ 255) (hR : R.length ≤ 4000) (hO : O.length ≤ 4000) : (tabNums ((wd : Int), R, O)).length ≤ 10000000 := by
  obtain ⟨_, _, h3, -⟩ := mayL_spec h
  have key : ∀ (rs : List RowD), (∀ r ∈ rs, r.2.length ≤ 255) → (rs.flatMap rowPut).length ≤ 600 * rs.length := by
    intro rs
    induction rs with
    | nil => intro _; simp
    | cons r rs ih =>
      intro hr
      have h1 := ih (fun x hx => hr x (List.mem_cons_of_mem _ hx))
      have h2 := hr r List.mem_cons_self
      have h3 : ∀ (cs : List (Int × Int)) (k : Int), (cellsPut k cs).length = 2 * cs.length := by
        intro cs
        induction cs with
        | nil => intro k; rfl
        | cons c cs ih => intro k; simp only [cellsPut, List.length_cons, ih]; omega
      have h4 := h3 r.2 0
      simp only [List.flatMap_cons, List.length_append, List.length_cons, rowPut, h4] at *
      omega
  have h4 := key R (fun r hr => by have := (fine_bounds (W := wd) (by omega) (by have := h3 r hr; rwa [Int.toNat_natCast] at this)).2.1; omega)
  simp only [tabNums, List.length_cons, List.length_append]
  omega

set_option maxRecDepth 100000 in
set_option maxHeartbeats 16000000 in
theorem rowsBack_any (wd : Nat) (LL : List (List Int)) (Z : List Int) (a ba : Option Addr) (c bc B gb ob : Nat) (w : World) (h : ListsIn w B (a, LL.length, c) LL) (hwd : wd ≤ 255) (hn4 : LL.length ≤ 4000) (hl4 : ∀ l ∈ LL, l.length ≤ 4000) (hs : sumL LL ≤ 4000) (hz : BytesAt w gb ob Z) (hza : 0 < Z.length → ba = some ⟨gb, ob, none⟩) (hzl : Z.length ≤ 50) :
    Calls Try.prog 8 #[.int .u8 wd, .slice a LL.length c, .slice ba Z.length bc] w fun e w' => e = .returned (.bool true) ∧ Chg (fun _ => False) w w' := by
  have HL := Lib.hid h
  have HLL := Lib.hid hl4
  have HZ := Lib.hid hz
  have HZA := Lib.hid hza
  have HF : Hid (decide (4000 < sumL LL) = false) := Lib.hid (by simpa using hs)
  have b33 : decide (50 < (Z.length : Int)) = false := by simp; omega
  clear h hl4 hz hza hs
  go_enter Try.func8, Try.ntmps8
  go_wp2_with fail
  refine (great_any LL a c B w HL.out (by omega) (fun l hl => by have := HLL.out l hl; omega)).mono ?_
  rintro e w1 ⟨rfl, hc1⟩
  rw [HF.out]
  have HC1 := Lib.hid hc1
  have HT0 : Hid (BackSt wd w1 w1 (.slice none 0 0) LL []) := Lib.hid ⟨.inl ⟨rfl, by simp [backX]⟩, by simp, fun j h l hj => by simp at hj, by simp, fun h hh => by simp at hh, Chg.refl _ _⟩
  clear hc1
  go_wp2
  go_loopw [8, 9] (fun v q wr => ∃ (k : Nat) (H : List Nat), k ≤ LL.length ∧ q = .int .i64 k ∧ H.length = k ∧ BackSt wd w1 wr v LL H) (fun _ q _ => LL.length - (intOf q).toNat)
  case atStart => exact ⟨0, [], by omega, rfl, rfl, HT0.out⟩
  case round =>
    clear HT0
    obtain ⟨k, H, hk, rfl, hHk, ht⟩ := hrel
    obtain ⟨va, vn, vc, hva⟩ := ht.own.shape3
    subst hva
    have HT := Lib.hid ht
    have HK := Lib.hid hHk
    have HCW := Lib.hid (HC1.out.trans ht.chg.fresh)
    clear ht hHk
    by_cases hkl : k < LL.length
    · have b41 : decide ((k : Int) < (LL.length : Int)) = true := by simp; omega
      obtain ⟨l, g, o, la, lc, gl, ol, hlk, rfl, c0, hlc, hla, hlp, hgw, -⟩ := (HL.out.same HCW.out).get hkl
      have hl4 := HLL.out l (List.mem_of_getElem? hlk)
      have HLK : Hid (LL[H.length]? = some l) := Lib.hid (by rw [HK.out]; exact hlk)
      have HLA := Lib.hid hla
      have HLP : Hid (0 < l.length → la = some ⟨gl, ol, none⟩) := Lib.hid (fun h => (hlp h).1)
      have HC0 := Lib.hid c0
      clear hlk hla hlp c0
      go_wp2_with (at_make; refine I.wpList_make8 rfl _ _ rfl _ _ _ _ wd wd rfl rfl rfl rfl (by omega) (by omega) ?_; intro w2 HR2 HC2)
      have HR3 : Hid (I.Row w2 wr.heap.size (bfillL wd l 0)) := Lib.hid (by rw [bfillL_start]; exact HR2.out)
      have HC3 := Lib.hid (HC2.out.any (S := fun x => wr.heap.size ≤ x))
      obtain ⟨wo, rfl⟩ : ∃ wo : World, wo = wr := ⟨_, rfl⟩
      go_loopw [11] (fun q wr => ∃ j : Nat, j ≤ wd ∧ q = .int .i64 j ∧ I.Row wr wo.heap.size (bfillL wd l j) ∧ Chg (fun x => wo.heap.size ≤ x) wo wr) (fun q _ => wd - (intOf q).toNat)
      case atStart => exact ⟨0, by omega, rfl, HR3.out, HC3.out⟩
      case round =>
        clear HR3 HC3 HR2 HC2
        obtain ⟨j, hj, rfl, hr, hc⟩ := hrel
        have HR := Lib.hid hr
        have HC := Lib.hid hc
        have c0 := HC.out.fresh.cellS HC0.out (fun h => h)
        clear hr hc
        by_cases hgo : j < wd ∧ 0 < l.length
        · obtain ⟨hjw, hl0⟩ := hgo
          have b48 : decide ((j : Int) < (wd : Int)) = true := by simp; omega
          have b55 : decide (0 < l.length) = true := by simpa using hl0
          have hjm : j % l.length < l.length := Nat.mod_lt _ hl0
          obtain ⟨z, hz, q1, z0, z2⟩ := (HLA.out.chg HC.out.fresh (fun _ h => h)).get hjm
          have e1 := HLP.out hl0
          subst e1
          have hrem : (j : Int).tmod (l.length : Int) = ((j % l.length : Nat) : Int) := (Int.ofNat_tmod _ _).symm
          have HBV : Hid (backV l j = clampV z) := Lib.hid (by
            unfold backV
            rw [if_neg (by intro e; rw [e] at hl0; simp at hl0), List.getD_eq_getElem?_getD, hz]
            rfl)
          obtain ⟨m, hm⟩ : ∃ m, j % l.length = m := ⟨_, rfl⟩
          rw [hm] at hjm q1 hrem
          have hln : ¬ l = [] := by intro e; rw [e] at hl0; simp at hl0
          clear hz hm
          have HCL : Hid ((16777215 < z ∧ clampV z = 16777215) ∨ (z ≤ 16777215 ∧ -1 < z ∧ clampV z = z) ∨ (z ≤ 16777215 ∧ z ≤ -1 ∧ clampV z = -1)) := Lib.hid (by unfold clampV; omega)
          have hlen := bfillL_length wd l j
          have q5 := HR.out.c j _ (List.getElem?_eq_getElem (by omega))
          have z5 := HR.out.z j
          obtain ⟨y, hy⟩ : ∃ y, (bfillL wd l j)[j]'(by omega) = y := ⟨_, rfl⟩
          rw [hy] at q5
          have HST : Hid (∀ X : Int, clampV z = X → I.Row ((wr.setCell ⟨wo.heap.size, j, none⟩ (.int .i64 X)).drew) wo.heap.size (bfillL wd l (j + 1)) ∧ Chg (fun x => wo.heap.size ≤ x) wo ((wr.setCell ⟨wo.heap.size, j, none⟩ (.int .i64 X)).drew)) := Lib.hid (fun X hX => by
            have hb := backV_val l j
            rw [HBV.out, hX] at hb
            have h1 := rowSetI HR.out (k := j) (by omega) (x := X) ⟨by have := hb.1; omega, by have := hb.2; omega⟩
            rw [← hX, ← HBV.out, bfillL_step] at h1
            rw [← hX, ← HBV.out]
            exact ⟨h1.chg (S := fun _ => False) (Chg.refl _ _).drew (fun h => h), (HC.out.trans ((setCellChg wr wo.heap.size j _).mono (T := fun x => wo.heap.size ≤ x) (fun k _ e => by omega))).drew⟩)
          clear hy hlen
          rcases HCL.out with ⟨h1, hX⟩ | ⟨h1, h2, hX⟩ | ⟨h1, h2, hX⟩
          · have h1' : ¬ z ≤ 16777215 := by omega
            have HSX := Lib.hid (HST.out _ hX)
            clear HST hX HCL
            go_upto_region 12 with (fail)
            refine wp_region_same (fun w' => w' = wr.drew) (by kernel_rfl) (by kernel_rfl) ?_ ?_
            · rfl
            iterate 14 (refine wpC_read rfl (fun _ _ _ h => h) (fun K hK => ?_); apply Exists.intro; refine ⟨fun _ w' _ hC => ?_, ?_⟩; ((subst hC); go_simp; try with_reducible rfl); (try go_simp); refine hK _ ?_; clear hK K)
            refine wpC_nil ?_
            rintro w' rfl
            go_wp2
            go_roundw
            case rel => exact ⟨j + 1, by omega, by go_num, HSX.out.1, HSX.out.2⟩
            case measure => simp [intOf]; omega
          · have HSX := Lib.hid (HST.out _ hX)
            clear HST hX HCL
            go_upto_region 12 with (fail)
            refine wp_region_same (fun w' => w' = wr.drew) (by kernel_rfl) (by kernel_rfl) ?_ ?_
            · rfl
            iterate 14 (refine wpC_read rfl (fun _ _ _ h => h) (fun K hK => ?_); apply Exists.intro; refine ⟨fun _ w' _ hC => ?_, ?_⟩; ((subst hC); go_simp; try with_reducible rfl); (try go_simp); refine hK _ ?_; clear hK K)
            refine wpC_nil ?_
            rintro w' rfl
            go_wp2
            go_roundw
            case rel => exact ⟨j + 1, by omega, by go_num, HSX.out.1, HSX.out.2⟩
            case measure => simp [intOf]; omega
          · have h2' : ¬ -1 < z := by omega
            have HSX := Lib.hid (HST.out _ hX)
            clear HST hX HCL
            go_upto_region 12 with (fail)
            refine wp_region_same (fun w' => w' = wr.drew) (by kernel_rfl) (by kernel_rfl) ?_ ?_
            · rfl
            iterate 14 (refine wpC_read rfl (fun _ _ _ h => h) (fun K hK => ?_); apply Exists.intro; refine ⟨fun _ w' _ hC => ?_, ?_⟩; ((subst hC); go_simp; try with_reducible rfl); (try go_simp); refine hK _ ?_; clear hK K)
            refine wpC_nil ?_
            rintro w' rfl
            go_wp2
            go_roundw
            case rel => exact ⟨j + 1, by omega, by go_num, HSX.out.1, HSX.out.2⟩
            case measure => simp [intOf]; omega
        · have hex : (decide ((j : Int) < (wd : Int)) = false ∧ decide (j < wd) = false) ∨ ((decide ((j : Int) < (wd : Int)) = true ∧ decide (j < wd) = true) ∧ decide (0 < l.length) = false) := by
            by_cases h : j < wd
            · exact .inr ⟨⟨by simp; omega, by simpa using h⟩, by cases l with
              | nil => rfl
              | cons x l => exact absurd ⟨h, by simp⟩ hgo⟩
            · exact .inl ⟨by simp; omega, by simpa using h⟩
          have HRB : Hid (I.Row wr wo.heap.size (backL wd l)) := Lib.hid (by
            have hr := HR.out
            by_cases h : j < wd
            · have e : l = [] := by
                cases l with
                | nil => rfl
                | cons x l => exact absurd ⟨h, by simp⟩ hgo
              rw [e] at hr ⊢
              rw [bfillL_nil] at hr
              exact hr
            · obtain rfl : j = wd := by omega
              rw [bfillL_end] at hr
              exact hr)
          clear hgo
          rcases hex with ⟨b48, b48n⟩ | ⟨⟨b48, b48n⟩, b55⟩
          all_goals
            have HA2 : Hid (Chg (fun _ => False) wo (wr.alloc (.cells #[.slice (some ⟨wo.heap.size, 0, none⟩) wd wd] 22))) := Lib.hid (HC.out.fresh.alloc _)
            have HR2 : Hid (I.Row (wr.alloc (.cells #[.slice (some ⟨wo.heap.size, 0, none⟩) wd wd] 22)) wo.heap.size (backL wd l)) := Lib.hid (HRB.out.chg ((Chg.refl (fun _ => False) wr).alloc _) (fun h => h))
            have HO2 := Lib.hid (HT.out.own.chg HA2.out (fun _ _ _ h => h))
            have HB2 : Hid (w1.heap.size ≤ (wr.alloc (.cells #[.slice (some ⟨wo.heap.size, 0, none⟩) wd wd] 22)).heap.size) := Lib.hid (HT.out.chg.trans HA2.out.any).size
            have HOK : Hid (∀ x ∈ [((some ⟨wo.heap.size, 0, none⟩ : Option Addr), wd, wd)], listE.ok x) := Lib.hid (fun x _ => trivial)
            have HLE : Hid ((backX wd LL H).length + 1 ≤ 1000000000000) := Lib.hid (by have := HK.out; unfold backX; rw [List.length_zipWith]; omega)
            go_wp2_with (at_builtin; refine Elt.wpList_append2 listE rfl (.tmp 78) (.tmp 80) 40 40 rfl rfl w1.heap.size (.slice va vn vc) (backX wd LL H) [((some ⟨wo.heap.size, 0, none⟩ : Option Addr), wd, wd)] (.slice (some ⟨wr.heap.size, 0, none⟩) 1 1) rfl rfl HO2.out HB2.out (listE.srcLit 1 HOK.out) HOK.out HLE.out ?_; intro v3 w3 H1 H2 H3; have HTN : Hid (BackSt wd w1 w3 v3 LL (H ++ [wo.heap.size])) := Lib.hid (HT.out.add HLK.out (Nat.le_refl _) HR2.out HA2.out H1.out H3.out.1 (H3.out.2.imp id (fun e => ⟨_, e, Nat.le_refl _⟩))); clear H1 H2 H3)
            go_roundw
            case rel => exact ⟨k + 1, H ++ [wo.heap.size], by omega, by go_num, by rw [List.length_append, HK.out]; rfl, HTN.out⟩
            case measure => simp [intOf]; omega
    · obtain rfl : k = LL.length := by omega
      have b41 : decide ((LL.length : Int) < (LL.length : Int)) = false := by simp
      obtain ⟨hvn, hvc, hls⟩ := HT.out.lists HK.out
      subst hvn
      have hok := backL_ok wd LL
      have hmlen := makeL_len (LL.map (backL wd))
      have hmay := makeL_may (W := (wd : Int)) (by omega) (by omega) (by rw [List.length_map]; omega) hok
      have HAT : Hid (∀ (i k : Nat) (l : List Int), LL[i]? = some l → k < wd → atTab ((wd : Int), (makeL (LL.map (backL wd))).1, (makeL (LL.map (backL wd))).2) i k = backV l k) := Lib.hid (fun i k l hl hk =>
        makeL_at (by rw [List.getElem?_map, hl]; rfl) (backL_get l hk) (by omega))
      have HMA := Lib.hid (make_any (wd : Int) (LL.map (backL wd)) va vc w1.heap.size wr hls (by omega) (by omega) (by rw [List.length_map]; omega) (fun l hl => by
        obtain ⟨x, -, rfl⟩ := List.mem_map.1 hl
        rw [backL_length]; omega))
      have HRC : Hid (∀ r ∈ (makeL (LL.map (backL wd))).1, r.2.length ≤ 1000000000) := Lib.hid (fun r hr => by
        obtain ⟨l, hl, rfl⟩ := makeL_rows _ r hr
        obtain ⟨x, -, rfl⟩ := List.mem_map.1 hl
        have := cellsFrom_le (usualL (backL wd x)) (backL wd x) 0
        rw [backL_length] at this
        show (cellsFrom (usualL (backL wd x)) 0 (backL wd x)).length ≤ _
        omega)
      unfold MakePost at HMA
      rw [hok] at HMA
      rw [List.length_map] at HMA hmlen
      generalize makeL (LL.map (backL wd)) = TT at *
      obtain ⟨R, O⟩ := TT
      simp only at HMA hmlen hmay HAT HRC
      obtain ⟨hRl, hOl⟩ := hmlen
      have HOL := Lib.hid hOl
      have hO4 : O.length ≤ 4000 := by omega
      clear hOl
      have HMAY := Lib.hid hmay
      have HLS := Lib.hid hls
      clear hmay hls hok
      go_wp2_with fail
      refine HMA.out.mono ?_
      rintro e w2 hp
      rcases hp with ⟨h1, -⟩ | ⟨-, ra, oa, rfl, hR, hO, hc2⟩
      · cases h1
      unfold tabV
      have HRA := Lib.hid hR
      have HOA := Lib.hid hO
      have HC2 := Lib.hid hc2
      obtain ⟨wa, hwa⟩ : ∃ x, x = w2.alloc (.cells #[.int .i64 wd, .slice ra R.length R.length, .slice oa O.length O.length] 45) := ⟨_, rfl⟩
      have HCA : Hid (Chg (fun _ => False) w2 wa) := Lib.hid (by rw [hwa]; exact (Chg.refl _ _).alloc _)
      have HBA : Hid (∀ wx, Chg (fun _ => False) wa wx → wx.cell? ⟨w2.heap.size, 0, none⟩ = some (.int .i64 wd) ∧ wx.cell? ⟨w2.heap.size, 1, none⟩ = some (.slice ra R.length R.length) ∧ wx.cell? ⟨w2.heap.size, 2, none⟩ = some (.slice oa O.length O.length)) := Lib.hid (fun wx hx => by subst hwa; exact ⟨hx.cellS (by simp) (fun h => h), hx.cellS (by simp) (fun h => h), hx.cellS (by simp) (fun h => h)⟩)
      have HWA := Lib.hid hwa
      obtain ⟨gq, hoat, hop⟩ := hO.bytes
      have HOAT := Lib.hid hoat
      have HOAP := Lib.hid hop
      have HWB : Hid (I.Byte (wd : Int)) := Lib.hid ⟨by omega, by omega⟩
      have HMC := Lib.hid (fun (wx : World) (hx : Chg (fun _ => False) wa wx) => may_any wd R O ra oa R.length O.length _ gq 0 wx HWB.out (HRA.out.same (HCA.out.trans hx)) (by omega) HRC.out (HOAT.out.chg (HCA.out.trans hx) (fun _ h => h)) HOAP.out (by omega))
      rw [HMAY.out] at HMC
      clear hR hO hc2 hwa hoat hop HMA
      go_upto_region 16 with (fail)
      rw [← HWA.out]
      have b96 : ((O.length : Int) != (LL.length : Int)) = false := by rw [HOL.out]; simp
      have b102 : ((wd : Int) != (wd : Int)) = false := by simp
      obtain ⟨q0, q1, q2⟩ := HBA.out wa (Chg.refl _ _)
      go_wp2_with fail
      refine (HMC.out wa (Chg.refl _ _)).mono ?_
      rintro e w3 ⟨rfl, hc3⟩
      have HC3 := Lib.hid hc3
      clear hc3 q0 q1 q2
      go_upto_region 18 with (fail)
      have HATC : Hid (∀ (x y : Int) (wx : World), I.Byte x → I.Byte y → Chg (fun _ => False) wa wx → Calls Try.prog 21 #[.agg #[.int .i64 wd, .slice ra R.length R.length, .slice oa O.length O.length], .int .i64 x, .int .i64 y] wx fun e w' => e = .returned (.int .i64 (atTab (wd, R, O) x y)) ∧ Chg (fun _ => False) wx w') := Lib.hid (fun x y wx hx hy hc =>
        atTab_any wd x y R O ra oa R.length O.length _ gq 0 wx HWB.out hx hy (HRA.out.same (HCA.out.trans hc)) HRC.out (HOAT.out.chg (HCA.out.trans hc) (fun _ h => h)) HOAP.out (by omega))
      have HTC := Lib.hid (HC2.out.trans (HCA.out.trans HC3.out))
      go_wp2
      go_loopw [15] (fun q wr => ∃ i : Nat, i ≤ LL.length ∧ q = .int .i64 i ∧ Chg (fun _ => False) w3 wr) (fun q _ => LL.length - (intOf q).toNat)
      case atStart => exact ⟨0, by omega, rfl, Chg.refl _ _⟩
      case round =>
        obtain ⟨i, hi, rfl, hcw⟩ := hrel
        have HCI := Lib.hid hcw
        clear hcw
        by_cases hil : i < LL.length
        · have b112 : decide ((i : Int) < (LL.length : Int)) = true := by simp; omega
          obtain ⟨l, h, g1, o1, hlk, -, hva, c0, hrow⟩ := HT.out.get HK.out hil
          subst hva
          have HROW := Lib.hid hrow
          have HCE := Lib.hid c0
          have HAI := Lib.hid (fun k hk => HAT.out i k l hlk hk)
          clear hlk c0 hrow
          go_wp2
          go_loopw [16] (fun q wr => ∃ k : Nat, k ≤ wd ∧ q = .int .i64 k ∧ Chg (fun _ => False) w3 wr) (fun q _ => wd - (intOf q).toNat)
          case atStart => exact ⟨0, by omega, rfl, HCI.out⟩
          case round =>
            clear HCI
            obtain ⟨k, hk, rfl, hcw⟩ := hrel
            have HCI := Lib.hid hcw
            clear hcw
            by_cases hkw : k < wd
            · have b117 : decide ((k : Int) < (wd : Int)) = true := by simp; omega
              have HVK := Lib.hid (HAI.out k hkw)
              have HCELL := Lib.hid (HROW.out.c k (backV l k) (backL_get l hkw))
              obtain ⟨V, hV⟩ : ∃ x, backV l k = x := ⟨_, rfl⟩
              rw [hV] at HVK HCELL
              have HFX : Hid (∀ wx, Chg (fun _ => False) wr wx → (wx.cell? ⟨w2.heap.size, 0, none⟩ = some (.int .i64 wd) ∧ wx.cell? ⟨w2.heap.size, 1, none⟩ = some (.slice ra R.length R.length) ∧ wx.cell? ⟨w2.heap.size, 2, none⟩ = some (.slice oa O.length O.length)) ∧ wx.cell? ⟨g1, o1 + i, none⟩ = some (.slice (some ⟨h, 0, none⟩) wd wd) ∧ wx.cell? ⟨h, k, none⟩ = some (.int .i64 V)) := Lib.hid (fun wx hx =>
                ⟨HBA.out wx (HC3.out.trans (HCI.out.trans hx)), (HTC.out.trans (HCI.out.trans hx)).cellS HCE.out (fun h => h), (HTC.out.trans (HCI.out.trans hx)).cellS HCELL.out (fun h => h)⟩)
              have e1 : (V != V) = false := by simp
              clear hV HCELL
              go_upto_region 24 with (fail)
              refine wp_region_same (fun w' => Chg (fun _ => False) wr w') (by kernel_rfl) (by kernel_rfl) ?_ ?_
              · exact (Chg.refl _ _).drew
              (refine wpC_read rfl (fun _ _ _ h => h) (fun K hK => ?_); apply Exists.intro; refine ⟨fun _ w' _ hC => ?_, ?_⟩; ((obtain ⟨⟨q0, q1, q2⟩, q3, q4⟩ := HFX.out w' hC); go_simp; try with_reducible rfl); (try go_simp); refine hK _ ?_; clear hK K)
              (refine wpC_read rfl (fun _ _ _ h => h) (fun K hK => ?_); apply Exists.intro; refine ⟨fun _ w' _ hC => ?_, ?_⟩; ((skip); go_simp; try with_reducible rfl); (try go_simp); refine hK _ ?_; clear hK K)
              (refine wpC_read rfl (fun _ _ _ h => h) (fun K hK => ?_); apply Exists.intro; refine ⟨fun _ w' _ hC => ?_, ?_⟩; ((skip); go_simp; try with_reducible rfl); (try go_simp); refine hK _ ?_; clear hK K)
              refine wpC_call rfl (Value.int .i64 V )  21  ( #[.agg #[.int .i64 wd, .slice ra R.length R.length, .slice oa O.length O.length], .int .i64 i, .int .i64 k]) (fun w' => by go_simp) (fun _ w' _ hC => ?_) (fun K hK => ?_)
              · refine (HATC.out i k w' ⟨by omega, by omega⟩ ⟨by omega, by omega⟩ (HC3.out.trans (HCI.out.trans hC))).mono ?_
                rintro e w5 ⟨rfl, hc⟩
                exact ⟨by rw [HVK.out], hC.trans hc⟩
              ((try go_simp); refine hK _ ?_; clear hK K)
              (refine wpC_read rfl (fun _ _ _ h => h) (fun K hK => ?_); apply Exists.intro; refine ⟨fun _ w' _ hC => ?_, ?_⟩; ((skip); go_simp; try with_reducible rfl); (try go_simp); refine hK _ ?_; clear hK K)
              (refine wpC_read rfl (fun _ _ _ h => h) (fun K hK => ?_); apply Exists.intro; refine ⟨fun _ w' _ hC => ?_, ?_⟩; ((skip); go_simp; try with_reducible rfl); (try go_simp); refine hK _ ?_; clear hK K)
              (refine wpC_read rfl (fun _ _ _ h => h) (fun K hK => ?_); apply Exists.intro; refine ⟨fun _ w' _ hC => ?_, ?_⟩; ((skip); go_simp; try with_reducible rfl); (try go_simp); refine hK _ ?_; clear hK K)
              (refine wpC_read rfl (fun _ _ _ h => h) (fun K hK => ?_); apply Exists.intro; refine ⟨fun _ w' _ hC => ?_, ?_⟩; ((obtain ⟨⟨q0, q1, q2⟩, q3, q4⟩ := HFX.out w' hC); go_simp; try with_reducible rfl); (try go_simp); refine hK _ ?_; clear hK K)
              (refine wpC_read rfl (fun _ _ _ h => h) (fun K hK => ?_); apply Exists.intro; refine ⟨fun _ w' _ hC => ?_, ?_⟩; ((skip); go_simp; try with_reducible rfl); (try go_simp); refine hK _ ?_; clear hK K)
              (refine wpC_read rfl (fun _ _ _ h => h) (fun K hK => ?_); apply Exists.intro; refine ⟨fun _ w' _ hC => ?_, ?_⟩; ((skip); go_simp; try with_reducible rfl); (try go_simp); refine hK _ ?_; clear hK K)
              (refine wpC_read rfl (fun _ _ _ h => h) (fun K hK => ?_); apply Exists.intro; refine ⟨fun _ w' _ hC => ?_, ?_⟩; ((obtain ⟨⟨q0, q1, q2⟩, q3, q4⟩ := HFX.out w' hC); go_simp; try with_reducible rfl); (try go_simp); refine hK _ ?_; clear hK K)
              (refine wpC_read rfl (fun _ _ _ h => h) (fun K hK => ?_); apply Exists.intro; refine ⟨fun _ w' _ hC => ?_, ?_⟩; ((skip); go_simp; try with_reducible rfl); (try go_simp); refine hK _ ?_; clear hK K)
              refine wpC_nil ?_
              intro w5 hC5
              have HCN := Lib.hid (HCI.out.trans hC5)
              clear hC5
              go_wp2
              go_roundw
              case rel => exact ⟨k + 1, by omega, by go_num, HCN.out⟩
              case measure => simp [intOf]; omega
            · obtain rfl : k = wd := by omega
              have b117 : decide ((k : Int) < (k : Int)) = false := by simp
              have HN1 := Lib.hid (atTab_no (W := (k : Int)) (l := (i : Int)) (i := -1) (R := R) (O := O) (.inr (.inr (.inl (by omega)))))
              have HN2 := Lib.hid (atTab_no (W := (k : Int)) (l := (i : Int)) (i := (k : Int)) (R := R) (O := O) (.inr (.inr (.inr (by omega)))))
              obtain ⟨q0, q1, q2⟩ := HBA.out wr (HC3.out.trans HCI.out)
              have HQ1 := Lib.hid (HATC.out i (-1) wr ⟨by omega, by omega⟩ ⟨by omega, by omega⟩ (HC3.out.trans HCI.out))
              rw [HN1.out] at HQ1
              go_wp2_with fail
              refine HQ1.out.mono ?_
              rintro e w5 ⟨rfl, hc5⟩
              have HC5 := Lib.hid (HCI.out.trans hc5)
              have HQ2 := Lib.hid (HATC.out i k w5 ⟨by omega, by omega⟩ ⟨by omega, by omega⟩ (HC3.out.trans HC5.out))
              rw [HN2.out] at HQ2
              clear hc5 q0 q1 q2
              obtain ⟨q0, q1, q2⟩ := HBA.out w5 (HC3.out.trans HC5.out)
              go_wp2_with fail
              refine HQ2.out.mono ?_
              rintro e w6 ⟨rfl, hc6⟩
              have HC6 := Lib.hid (HC5.out.trans hc6)
              clear hc6 q0 q1 q2
              go_wp2
              go_roundw
              case rel => exact ⟨i + 1, by omega, by go_num, HC6.out⟩
              case measure => simp [intOf]; omega
        · obtain rfl : i = LL.length := by omega
          have b112 : decide ((LL.length : Int) < (LL.length : Int)) = false := by simp
          have HN3 := Lib.hid (atTab_no (W := (wd : Int)) (l := (LL.length : Int)) (i := 0) (R := R) (O := O) (.inr (.inl (by rw [HOL.out]; omega))))
          have HN4 := Lib.hid (atTab_no (W := (wd : Int)) (l := -1) (i := 0) (R := R) (O := O) (.inl (by omega)))
          obtain ⟨q0, q1, q2⟩ := HBA.out wr (HC3.out.trans HCI.out)
          have HQ1 := Lib.hid (HATC.out LL.length 0 wr ⟨by omega, by omega⟩ ⟨by omega, by omega⟩ (HC3.out.trans HCI.out))
          rw [HN3.out] at HQ1
          go_wp2_with fail
          refine HQ1.out.mono ?_
          rintro e w5 ⟨rfl, hc5⟩
          have HC5 := Lib.hid (HCI.out.trans hc5)
          have HQ2 := Lib.hid (HATC.out (-1) 0 w5 ⟨by omega, by omega⟩ ⟨by omega, by omega⟩ (HC3.out.trans HC5.out))
          rw [HN4.out] at HQ2
          clear hc5 q0 q1 q2
          obtain ⟨q0, q1, q2⟩ := HBA.out w5 (HC3.out.trans HC5.out)
          go_wp2_with fail
          refine HQ2.out.mono ?_
          rintro e w6 ⟨rfl, hc6⟩
          have HC6 := Lib.hid (HC3.out.trans (HC5.out.trans hc6))
          clear hc6 q0 q1 q2
          obtain ⟨q0, q1, q2⟩ := HBA.out w6 HC6.out
          have HNUM : Hid ((tabNums ((wd : Int), R, O)).length ≤ 10000000) := Lib.hid (backNums (wd := wd) HMAY.out (by omega) (by omega) (by omega))
          obtain ⟨P, hP⟩ : ∃ x, putTab ((wd : Int), R, O) = x := ⟨_, rfl⟩
          have HPL : Hid (P.length ≤ 50000000) := Lib.hid (by
            rw [← hP]
            have := bytesOf_len (tabNums ((wd : Int), R, O)) (tabNums_ok HMAY.out).1
            have := HNUM.out
            unfold putTab
            omega)
          have HPUT := Lib.hid (put_ok [] wd R O ra oa none R.length O.length 0 0 0 _ gq 0 w6 HWB.out (HRA.out.same (HCA.out.trans HC6.out)) (by omega) HRC.out (HOAT.out.chg (HCA.out.trans HC6.out) (fun _ h => h)) HOAP.out (by omega) HMAY.out ⟨fun k a hk => by simp at hk, fun h => absurd rfl h⟩ (fun h => absurd h (by simp)) (by simp) HNUM.out)
          simp only [hP, List.nil_append, List.length_nil] at HPUT
          have HPE := Lib.hid hP
          clear hP
          go_wp2_with fail
          refine HPUT.out.mono ?_
          rintro e w7 ⟨hp, rfl, hhp, hr7, hc7⟩
          have HRP := Lib.hid hr7
          have HC7 := Lib.hid (HC6.out.trans hc7)
          clear hr7 hc7 hhp HPUT q0 q1 q2
          have HOP0 : Hid (byteE.Own w7 w7.heap.size (.slice none 0 0) []) := Lib.hid (.nil _ _)
          have HPO : Hid (∀ x ∈ P, byteE.ok x) := Lib.hid (fun x hx => HRP.out.byte x hx)
          have HS1 : Hid (Src Try.prog byteE.sz 55 (.slice (some ⟨hp, 0, none⟩) P.length P.length) P.length (byteE.encs P) w7) := Lib.hid (by rw [byteEncs]; exact srcBytes (HRP.out.bytes (List.prefix_refl _)) (fun _ => rfl))
          have HL1 : Hid (([] : List Int).length + P.length ≤ 1000000000000) := Lib.hid (by have := HPL.out; simp; omega)
          have HZW : Hid (BytesAt w7 gb ob Z) := Lib.hid (HZ.out.chg (HCW.out.trans (HC2.out.trans (HCA.out.trans HC7.out))) (fun _ h => h))
          have HZO : Hid (∀ x ∈ Z, byteE.ok x) := Lib.hid (fun x hx => HZ.out.byte x hx)
          have HL2 : Hid (([] ++ P).length + Z.length ≤ 1000000000000) := Lib.hid (by have := HPL.out; simp; omega)
          obtain ⟨Y, hY⟩ : ∃ Y, ([] ++ P) ++ Z = Y := ⟨_, rfl⟩
          have HYE : Hid (Y = P ++ Z) := Lib.hid (by rw [← hY]; rfl)
          have HTP : Hid (takeOk Y mostP = true ∧ takeP Y mostP = (((wd : Int), R, O), P.length, false) ∧ Y.length ≤ 100000000) := Lib.hid (by
            rw [HYE.out, ← HPE.out]
            refine ⟨takeOk_put HMAY.out Z, take_put HMAY.out Z, ?_⟩
            have := HPL.out
            rw [HPE.out, List.length_append]
            omega)
          go_wp2_with (first
            | (at_builtin; refine Elt.wpList_append2 byteE rfl (.const (.slice none 0 0)) (.tmp 159) 55 55 rfl rfl w7.heap.size (.slice none 0 0) [] P (.slice (some ⟨hp, 0, none⟩) P.length P.length) rfl rfl HOP0.out (Nat.le_refl _) HS1.out HPO.out HL1.out ?_; intro v8 w8 H1 H2 H3; obtain ⟨va8, vl8, vc8, hv8⟩ := H1.out.shape3; subst hv8; have HB8 : Hid (w7.heap.size ≤ w8.heap.size) := Lib.hid H2.out.size; have HS2 : Hid (Src Try.prog byteE.sz 55 (.slice ba Z.length bc) Z.length (byteE.encs Z) w8) := Lib.hid (by rw [byteEncs]; exact srcBytes (HZW.out.chg H2.out.fresh (fun _ h => h)) HZA.out))
            | (at_builtin; refine Elt.wpList_append2 byteE rfl (.tmp 160) (.tmp 161) 55 55 rfl rfl w7.heap.size (.slice va8 vl8 vc8) ([] ++ P) Z (.slice ba Z.length bc) rfl rfl H1.out HB8.out HS2.out HZO.out HL2.out ?_; rw [hY]; intro v9 w9 K1 K2 K3; obtain ⟨a9, g9, c9, hv9, hb9, ha9, hc9, hn9⟩ := ownAt2 K1.out; subst hv9; have HK9 := Lib.hid (takeTab_any Y a9 g9 0 c9 w9 hb9 ha9 hc9 hn9 HTP.out.2.2); have HC9 : Hid (Chg (fun _ => False) w7 w9) := Lib.hid (H2.out.trans K2.out).fresh; clear hb9 ha9 hc9 hn9 K1 K2 K3 H1 H2 H3))
          rw [HTP.out.1, HTP.out.2.1] at HK9
          simp only at HK9
          refine HK9.out.mono ?_
          rintro e w10 hp
          rcases hp with ⟨-, ra2, oa2, rfl, hR2, hO2, hc10⟩ | ⟨h1, -⟩
          case inr => cases h1
          have HRA2 := Lib.hid hR2
          have HOA2 := Lib.hid hO2
          have HC10 := Lib.hid (HC9.out.trans hc10)
          clear hR2 hO2 hc10 HK9
          obtain ⟨wu, hwu⟩ : ∃ x, x = w10.alloc (.cells #[.int .i64 wd, .slice ra2 R.length R.length, .slice oa2 O.length O.length] 45) := ⟨_, rfl⟩
          have HCU : Hid (Chg (fun _ => False) w10 wu) := Lib.hid (by rw [hwu]; exact (Chg.refl _ _).alloc _)
          have HBU : Hid (∀ wx, Chg (fun _ => False) wu wx → wx.cell? ⟨w10.heap.size, 0, none⟩ = some (.int .i64 wd) ∧ wx.cell? ⟨w10.heap.size, 1, none⟩ = some (.slice ra2 R.length R.length) ∧ wx.cell? ⟨w10.heap.size, 2, none⟩ = some (.slice oa2 O.length O.length)) := Lib.hid (fun wx hx => by subst hwu; exact ⟨hx.cellS (by simp) (fun h => h), hx.cellS (by simp) (fun h => h), hx.cellS (by simp) (fun h => h)⟩)
          have HWU := Lib.hid hwu
          obtain ⟨gq2, hoat2, hop2⟩ := HOA2.out.bytes
          have HPUT2 := Lib.hid (put_ok [] wd R O ra2 oa2 none R.length O.length 0 0 0 _ gq2 0 wu HWB.out (HRA2.out.same HCU.out) (by omega) HRC.out (hoat2.chg HCU.out (fun _ h => h)) hop2 (by omega) HMAY.out ⟨fun k a hk => by simp at hk, fun h => absurd rfl h⟩ (fun h => absurd h (by simp)) (by simp) HNUM.out)
          simp only [HPE.out, List.nil_append, List.length_nil] at HPUT2
          clear hwu hoat2 hop2
          go_upto_region 32 with (fail)
          rw [← HWU.out]
          obtain ⟨q0, q1, q2⟩ := HBU.out wu (Chg.refl _ _)
          go_wp2_with fail
          refine HPUT2.out.mono ?_
          rintro e w11 ⟨hp2, rfl, -, hr11, hc11⟩
          have HRP2 := Lib.hid hr11
          have HC11 := Lib.hid (HC10.out.trans (HCU.out.trans hc11))
          clear q0 q1 q2
          obtain ⟨q0, q1, q2⟩ := HBU.out w11 hc11
          obtain ⟨q3, q4, q5⟩ := HBA.out w11 (HC7.out.trans HC11.out)
          have hcx := conv8 P.length (HRP2.out.bytes (List.prefix_refl _)) (fun _ => rfl)
          have hcy := conv8 P.length ((HRP.out.chg HC11.out (fun h => h)).bytes (List.prefix_refl _)) (fun _ => rfl)
          obtain ⟨S, hS⟩ : ∃ S, strOfNums P = S := ⟨_, rfl⟩
          rw [hS] at hcx hcy
          have b186 : ((P.length : Int) != (P.length : Int)) = false := by simp
          have b202 : ((O.length : Int) != (O.length : Int)) = false := by simp
          clear hr11 hc11 hS HPUT2
          go_upto_region 35 with (fail)
          clear hcx hcy q0 q1 q2 q3 q4 q5
          have hPl := HPL.out
          go_wp2
          go_loopw [24] (fun q wr => ∃ i : Nat, i ≤ P.length ∧ q = .int .i64 i ∧ Chg (fun _ => False) w11 wr) (fun q _ => P.length - (intOf q).toNat)
          case atStart => exact ⟨0, Nat.zero_le _, rfl, Chg.refl _ _⟩
          case round =>
            obtain ⟨i, hi, rfl, hcw⟩ := hrel
            have HCI2 := Lib.hid hcw
            clear hcw
            by_cases hgo : i < P.length ∧ i < 60
            · obtain ⟨hil, hi6⟩ := hgo
              have b207 : decide ((i : Int) < (P.length : Int)) = true := by simp; omega
              have b210 : decide ((i : Int) < 60) = true := by simp; omega
              have hlt : (P.take i).length = i := by rw [List.length_take]; omega
              have HTK := Lib.hid (takeTab_any (P.take i) (some ⟨hp, 0, none⟩) hp 0 P.length wr ((HRP.out.chg (HC11.out.trans HCI2.out) (fun h => h)).bytes (List.take_prefix _ _)) (fun _ => rfl) (by omega) (fun e => by cases e) (by omega))
              have hcut : takeOk (P.take i) mostP = false := by
                have := takeOk_cut HMAY.out (i := i) (by rw [HPE.out]; exact hil)
                rwa [HPE.out] at this
              rw [hcut, hlt] at HTK
              clear hlt hcut
              go_wp2_with fail
              refine HTK.out.mono ?_
              rintro e w12 hq
              rcases hq with ⟨h1, -⟩ | ⟨-, rfl, hc12⟩
              case inl => cases h1
              have HC12 := Lib.hid ((HCI2.out.trans hc12).alloc (.cells #[.int .i64 0, .slice none 0 0, .slice none 0 0] 45))
              clear hc12 HTK
              go_wp2
              go_roundw
              case rel => exact ⟨i + 1, by omega, by go_num, HC12.out⟩
              case measure => simp [intOf]; omega
            · have hex : (decide ((i : Int) < (P.length : Int)) = false ∧ decide (i < P.length) = false) ∨ ((decide ((i : Int) < (P.length : Int)) = true ∧ decide (i < P.length) = true) ∧ decide ((i : Int) < 60) = false ∧ decide (i < 60) = false) := by
                by_cases h : i < P.length
                · exact .inr ⟨⟨by simp; omega, by simpa using h⟩, by simp; omega, by simp; omega⟩
                · exact .inl ⟨by simp; omega, by simpa using h⟩
              clear hgo
              rcases hex with ⟨b207, b207n⟩ | ⟨⟨b207, b207n⟩, b210, b210n⟩
              all_goals
                go_wp2_with fail
                refine (lives_any wr).mono ?_
                rintro e w13 ⟨rfl, hc13⟩
                have HEND := Lib.hid (HCW.out.trans (HC2.out.trans (HCA.out.trans (HC7.out.trans (HC11.out.trans (HCI2.out.trans hc13))))))
                clear hc13
                go_wp2
                go_ret
                exact ⟨rfl, HEND.out⟩
end Go.Proofs.Ytkfakkonlnjckaa
