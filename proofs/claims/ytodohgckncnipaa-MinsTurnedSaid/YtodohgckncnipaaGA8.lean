/- The program's Least: the columns, the ranges. -/
import Derived.Test.YtodohgckncnipaaGA7
/- The program's Least: the columns, the ranges. -/
namespace Go.Proofs.Ytodohgckncnipaa
open Go.RowKit Go.Maps

noncomputable def LstDBody : Code := ((Try.f10.body.map loopsOf).getD [])[0]?.getD .skip

theorem num_row {w : World} {g : Nat} {f : Nat → Int} {L : List Int} (h : NumAt w g L.length f) (he : ∀ j, j < L.length → f j = L.getD j 0) : intE.Row w g L := by
  have e : (List.range L.length).map f = L := by
    apply List.ext_getElem?
    intro q
    by_cases hq : q < L.length
    · rw [List.getElem?_map, List.getElem?_range hq]
      simp only [Option.map_some]
      rw [he q hq, List.getD_eq_getElem?_getD, List.getElem?_eq_getElem hq]
      rfl
    · rw [List.getElem?_eq_none (by simp; omega), List.getElem?_eq_none (by omega)]
  unfold NumAt at h
  rwa [e] at h
theorem num_made {w : World} {g n : Nat} (h : intE.Row w g (List.replicate n intE.z)) : NumAt w g n (fun _ => 0) := by
  unfold NumAt
  rw [show (List.range n).map (fun _ => (0 : Int)) = List.replicate n 0 by rw [List.map_const', List.length_range]]
  exact h

set_option maxRecDepth 100000 in
set_option maxHeartbeats 16000000 in
theorem colsD_any (t : TabD) (o : List Nat) (F : Nat → Int) (bt bo gF gm rc cc nc ec vc : Nat) (ra ca na ea va : Option Addr) (w0 : World)
    (HM : Hid (MayS t)) (HF : Hid (Fair t)) (HG : Hid (GrpT t F)) (HO : Hid (Ord t o)) (HCL : Hid (ClsO t o o.length)) (_ : t.r.length ≤ rc)
    (HSRC : Hid (∀ wx, Chg (fun k => k = bo ∨ w0.heap.size ≤ k) w0 wx → LSrc t o F bt gF gm (ra, t.r.length, rc) (ca, t.c.length, cc) (na, t.n.length, nc) (ea, t.e.length, ec) (va, o.length, vc) wx))
    (HPH : Hid (Ph2 w0 w0.heap.size bo (fun _ => 0) (zK t o 0) (.slice none 0 0) (.slice none 0 0) (.slice none 0 0)))
    {Q0 : Exit → Act → World → Prop} (hpn : ∀ c (a : Act) d v w, Q0 (.panic c) (a.put d v) w → Q0 (.panic c) a w) {c0 c3 c8 c9 c10 c11 c12 c13 c14 c15 c16 c17 c18 c19 c20 c21 c22 c23 c24 c25 c26 c27 c28 c29 c30 c31 c32 c33 c34 c38 c39 c40 c41 c42 c43 c44 c45 c46 c47 c48 c49 c50 c51 c52 c53 c54 c55 c56 c57 c58 c59 c60 c61 c62 c63 c64 c65 c66 c67 c68 c69 c70 c71 c72 c73 c74 c75 c76 c77 c78 c79 c80 c81 c82 c83 c84 c85 c86 c87 c88 c89 c90 c91 c92 c93 c94 c95 c96 c97 c98 c99 c100 c101 c102 c103 c104 c105 c106 c107 c108 c109 c110 c111 c112 c113 c114 c115 c116 c117 c118 c119 c120 c121 c122 c123 c124 c125 c126 c127 c128 c129 c130 c131 c132 c133 c134 c135 c136 c137 c138 c139 c140 c141 c142 c143 c144 c145 c146 c147 c148 c149 c150 c151 c152 c153 c154 c155 c156 c157 c158 c159 c160 c161 c162 c163 c164 c165 c166 c167 c168 c169 c170 c171 c172 c173 c174 c175 c176 c177 c178 c179 c180 c181 c182 c183 c184 c185 c186 c187 c188 c189 c190 c191 c192 c193 c194 c195 c196 c197 c198 c199 : Value}
    (HEX : Hid (∀ (τ : Nat → Nat) (vcl vr vk : Value) (w' : World), Ph2 w' w0.heap.size bo τ (leastZ t o) vcl vr vk → Chg (fun k => k = bo ∨ w0.heap.size ≤ k) w0 w' → ∀ u8 u9 u10 u11 u12 u13 u14 u15 u38 u39 u40 u41 u42 u43 u44 u45 u46 u47 u48 u49 u50 u51 u52 u53 u54 u55 u56 u57 u58 u59 u60 u61 u62 u63 u64 u65 u66 u67 u68 u69 u70 u71 u72 u73 u74 u75 u76 u77 u78 u79 u80 u81 u82 u83 u84 u85 u86 u87 u88 u89 u90 u91 u92 u93 u94 u95 u96 u97 u98 u99 u100 u101 u102 u103 u104 u105 u106 u107 u108 u109 u110 u111 u112 u113 u114 u115 u116 u117 u118 u119 u120 u121 u122 u123 u124 u125 u126 u127 u128 u129 u130 u131 u132 u133 u134 u135 u136 u137 u138 u139 u140 u141 u142 u143 : Value, Q0 (.exit 0) ⟨List.toArray (c0 :: (.pointer (some ⟨bt, 0, none⟩)) :: (.pointer (some ⟨bo, 0, none⟩)) :: c3 :: (.slice (some ⟨gF, 0, none⟩) t.n.length t.n.length) :: (.slice va o.length vc) :: (.map (some gm)) :: (vcl) :: u8 :: u9 :: u10 :: u11 :: u12 :: u13 :: u14 :: u15 :: c16 :: c17 :: c18 :: c19 :: c20 :: c21 :: c22 :: c23 :: c24 :: c25 :: c26 :: c27 :: c28 :: c29 :: c30 :: c31 :: c32 :: c33 :: c34 :: (.slice ra t.r.length rc) :: (.int .i64 t.r.length) :: (.int .i64 t.r.length) :: u38 :: u39 :: u40 :: u41 :: u42 :: u43 :: u44 :: u45 :: u46 :: u47 :: u48 :: u49 :: u50 :: u51 :: u52 :: u53 :: u54 :: u55 :: u56 :: u57 :: u58 :: u59 :: u60 :: u61 :: u62 :: u63 :: u64 :: u65 :: u66 :: u67 :: u68 :: u69 :: u70 :: u71 :: u72 :: u73 :: u74 :: u75 :: u76 :: u77 :: u78 :: u79 :: u80 :: u81 :: u82 :: u83 :: u84 :: u85 :: u86 :: u87 :: u88 :: u89 :: u90 :: u91 :: u92 :: u93 :: u94 :: u95 :: u96 :: u97 :: u98 :: u99 :: u100 :: u101 :: u102 :: u103 :: u104 :: u105 :: u106 :: u107 :: u108 :: u109 :: u110 :: u111 :: u112 :: u113 :: u114 :: u115 :: u116 :: u117 :: u118 :: u119 :: u120 :: u121 :: u122 :: u123 :: u124 :: u125 :: u126 :: u127 :: u128 :: u129 :: u130 :: u131 :: u132 :: u133 :: u134 :: u135 :: u136 :: u137 :: u138 :: u139 :: u140 :: u141 :: u142 :: u143 :: c144 :: c145 :: c146 :: c147 :: c148 :: c149 :: c150 :: c151 :: c152 :: c153 :: c154 :: c155 :: c156 :: c157 :: c158 :: c159 :: c160 :: c161 :: c162 :: c163 :: c164 :: c165 :: c166 :: c167 :: c168 :: c169 :: c170 :: c171 :: c172 :: c173 :: c174 :: c175 :: c176 :: c177 :: c178 :: c179 :: c180 :: c181 :: c182 :: c183 :: c184 :: c185 :: c186 :: c187 :: c188 :: c189 :: c190 :: c191 :: c192 :: c193 :: c194 :: c195 :: c196 :: c197 :: c198 :: c199 :: []), []⟩ w')) :
    Code.wp Try.prog (Code.loop LstDBody) Q0 ⟨List.toArray (c0 :: (.pointer (some ⟨bt, 0, none⟩)) :: (.pointer (some ⟨bo, 0, none⟩)) :: c3 :: (.slice (some ⟨gF, 0, none⟩) t.n.length t.n.length) :: (.slice va o.length vc) :: (.map (some gm)) :: (.slice none 0 0) :: c8 :: c9 :: c10 :: c11 :: c12 :: c13 :: c14 :: c15 :: c16 :: c17 :: c18 :: c19 :: c20 :: c21 :: c22 :: c23 :: c24 :: c25 :: c26 :: c27 :: c28 :: c29 :: c30 :: c31 :: c32 :: c33 :: c34 :: (.slice ra t.r.length rc) :: (.int .i64 t.r.length) :: (.int .i64 0) :: c38 :: c39 :: c40 :: c41 :: c42 :: c43 :: c44 :: c45 :: c46 :: c47 :: c48 :: c49 :: c50 :: c51 :: c52 :: c53 :: c54 :: c55 :: c56 :: c57 :: c58 :: c59 :: c60 :: c61 :: c62 :: c63 :: c64 :: c65 :: c66 :: c67 :: c68 :: c69 :: c70 :: c71 :: c72 :: c73 :: c74 :: c75 :: c76 :: c77 :: c78 :: c79 :: c80 :: c81 :: c82 :: c83 :: c84 :: c85 :: c86 :: c87 :: c88 :: c89 :: c90 :: c91 :: c92 :: c93 :: c94 :: c95 :: c96 :: c97 :: c98 :: c99 :: c100 :: c101 :: c102 :: c103 :: c104 :: c105 :: c106 :: c107 :: c108 :: c109 :: c110 :: c111 :: c112 :: c113 :: c114 :: c115 :: c116 :: c117 :: c118 :: c119 :: c120 :: c121 :: c122 :: c123 :: c124 :: c125 :: c126 :: c127 :: c128 :: c129 :: c130 :: c131 :: c132 :: c133 :: c134 :: c135 :: c136 :: c137 :: c138 :: c139 :: c140 :: c141 :: c142 :: c143 :: c144 :: c145 :: c146 :: c147 :: c148 :: c149 :: c150 :: c151 :: c152 :: c153 :: c154 :: c155 :: c156 :: c157 :: c158 :: c159 :: c160 :: c161 :: c162 :: c163 :: c164 :: c165 :: c166 :: c167 :: c168 :: c169 :: c170 :: c171 :: c172 :: c173 :: c174 :: c175 :: c176 :: c177 :: c178 :: c179 :: c180 :: c181 :: c182 :: c183 :: c184 :: c185 :: c186 :: c187 :: c188 :: c189 :: c190 :: c191 :: c192 :: c193 :: c194 :: c195 :: c196 :: c197 :: c198 :: c199 :: []), []⟩ w0 := by
  conv => arg 2; arg 1; whnf
  have eg1 := enters_of Try.func31 (by kernel_rfl) rfl
  have eg2 := enters_of Try.func33 (by kernel_rfl) rfl
  have fn := HF.out.n
  have fc := HF.out.c
  have fr := HF.out.r
  have hol := HO.out.len_le
  have HCLEN := Lib.hid HM.out.cl
  go_loopw [7, 37] (fun v q wr => ∃ (k : Nat) (τ : Nat → Nat) (vr vk : Value), k ≤ t.r.length ∧ q = .int .i64 k ∧ Ph2 wr w0.heap.size bo τ (zK t o k) v vr vk ∧ Chg (fun k => k = bo ∨ w0.heap.size ≤ k) w0 wr) (fun _ q _ => t.r.length - (intOf q).toNat)
  case atStart => exact ⟨0, _, _, _, by omega, rfl, HPH.out, Chg.refl _ _⟩
  case round =>
    clear HPH
    obtain ⟨k, τ, vr, vk, hk, rfl, hph, hc⟩ := hrel
    have hfc := zK_facts HCLEN.out o k hk
    obtain ⟨z, hz⟩ : ∃ z, zK t o k = z := ⟨_, rfl⟩
    rw [hz] at hph hfc
    have HZ := Lib.hid hz
    clear hz
    obtain ⟨cols, R, C⟩ := z
    simp only at hfc
    obtain ⟨hCR, hcl1, hrl1, hcol⟩ := hfc
    obtain ⟨vca, vcc, rfl, hvcc⟩ := hph.cols.shape
    simp only at hph hvcc
    have HPH := Lib.hid hph
    have HC := Lib.hid hc
    have HCOL := Lib.hid hcol
    have HCRH := Lib.hid hCR
    have HLEN : Hid (R.length ≤ 1000000000 ∧ C.length ≤ 1000000000 ∧ cols.length ≤ 1000000000) := Lib.hid (by omega)
    have HOLD : Hid ((∀ g, vr.ownBlock = some g → g < wr.heap.size) ∧ (∀ g, vk.ownBlock = some g → g < wr.heap.size)) := Lib.hid ⟨fun g hg => (hph.r.own.blk hg).2, fun g hg => (hph.k.own.blk hg).2⟩
    clear hph hc hcol hCR
    by_cases hkl : k < t.r.length
    · have b1 : decide ((k : Int) < (t.r.length : Int)) = true := by simp; omega
      have b2 : k < t.r.length := hkl
      have hL := HSRC.out wr HC.out
      obtain ⟨x, y, gr, or, hrx, hra, r0, r1, hx32, hy32, -, -⟩ := hL.r.getR hkl
      obtain ⟨c, gc2, oc, hcx, hca, -, -, -, -, -⟩ := hL.c.getI (k := k) (by have := HCLEN.out; omega)
      subst hra
      obtain ⟨cn, rfl⟩ : ∃ c' : Nat, c = c' := ⟨c.toNat, by have := (HM.out.cb c (List.mem_of_getElem? hcx)).1; omega⟩
      have HRK := Lib.hid (show _ ∧ _ from ⟨hrx, hcx⟩)
      have HRY : Hid (∀ a ∈ [(x, y)], rngE.ok a) := Lib.hid (fun a ha => by rw [List.mem_singleton] at ha; subst ha; exact ⟨hx32, hy32⟩)
      have HXY := Lib.hid (show _ ∧ _ from ⟨hx32, hy32⟩)
      have hkc : k < t.c.length := by have := HCLEN.out; omega
      clear hrx hcx hL hx32 hy32 hca
      -- the range in a box, the column made
      obtain ⟨wb, hwb⟩ : ∃ X, X = wr.alloc (.cells #[.int .i32 x, .int .i32 y] 54) := ⟨_, rfl⟩
      have HCB : Hid (Chg (fun _ => False) wr wb) := Lib.hid (by rw [hwb]; exact (Chg.refl _ _).alloc _)
      have HRB : Hid (wb.cell? ⟨wr.heap.size, 0, none⟩ = some (.int .i32 x) ∧ wb.cell? ⟨wr.heap.size, 1, none⟩ = some (.int .i32 y)) := Lib.hid (by rw [hwb]; refine ⟨?_, ?_⟩ <;> · rw [World.cell?_alloc_new]; rfl)
      have HWB := Lib.hid hwb
      clear hwb
      go_upto_region 10 with (fail)
      rw [← HWB.out]
      clear r0 r1
      go_upto_region 11 with (at_make; refine intE.wpList_make rfl _ _ _ rfl rfl _ _ _ _ o.length o.length rfl rfl rfl (by omega) (by omega) (by omega) ?_; intro w2 HR2 HC2)
      obtain ⟨w3, hw3⟩ : ∃ X, X = w2.alloc (.cells #[.slice (some ⟨wb.heap.size, 0, none⟩) o.length o.length] 23) := ⟨_, rfl⟩
      have hc23 : Chg (fun _ => False) w2 w3 := by rw [hw3]; exact (Chg.refl _ _).alloc _
      have HBC : Hid (w3.cell? ⟨w2.heap.size, 0, none⟩ = some (.slice (some ⟨wb.heap.size, 0, none⟩) o.length o.length)) := Lib.hid (by rw [hw3, World.cell?_alloc_new]; rfl)
      have HWC : Hid (Chg (fun _ => False) wr w3) := Lib.hid (HCB.out.trans (HC2.out.trans hc23))
      have HN3 : Hid (NumAt w3 wb.heap.size o.length (fun _ => 0)) := Lib.hid ((num_made HR2.out).same hc23)
      have hlt2 : wb.heap.size < w2.heap.size := HR2.out.lt
      have hsb : wr.heap.size ≤ wb.heap.size := HCB.out.size
      have HRB3 : Hid (w3.cell? ⟨wr.heap.size, 0, none⟩ = some (.int .i32 x) ∧ w3.cell? ⟨wr.heap.size, 1, none⟩ = some (.int .i32 y)) := Lib.hid ⟨(HC2.out.trans hc23).cellS HRB.out.1 (fun h => h), (HC2.out.trans hc23).cellS HRB.out.2 (fun h => h)⟩
      have hrb : wr.heap.size < wb.heap.size := by have := World.block_lt_of_cell? _ _ HRB.out.1; exact this
      obtain ⟨bR, hbR⟩ : ∃ X, wr.heap.size = X := ⟨_, rfl⟩
      obtain ⟨gc, hgc⟩ : ∃ X, wb.heap.size = X := ⟨_, rfl⟩
      obtain ⟨bc, hbc⟩ : ∃ X, w2.heap.size = X := ⟨_, rfl⟩
      have HW3 := Lib.hid hw3
      have hB0 : w0.heap.size ≤ wr.heap.size := HC.out.size
      have HBK : Hid (w0.heap.size ≤ bR ∧ bR < gc ∧ gc < bc ∧ wr.heap.size = bR) := Lib.hid (by omega)
      rw [hgc] at hw3
      rw [hbR] at HRB3 ⊢
      rw [hgc] at HBC HN3 HW3 ⊢
      rw [hbc] at HBC ⊢
      clear hbR hgc hbc hw3 hc23 HR2 HC2 HCB HRB hlt2 hsb hrb hB0
      have HSC : Hid (∀ wx, Chg (fun x => x = gc) w3 wx → Chg (fun k => k = bo ∨ w0.heap.size ≤ k) w0 wx) := Lib.hid (fun wx hx => (HC.out.trans HWC.out.any).trans (hx.mono (fun k _ e => .inr (by have := HBK.out; omega))))
      rw [← HW3.out]
      go_wp2_with fail
      refine fillC_any t o F (fun _ => 0) bt gF gm bc gc k cn rc cc nc ec vc (some ⟨gr, or, none⟩) ca na ea va w3 HM HF HG HO HCL hkc (Lib.hid HRK.out.2) (Lib.hid (fun wx hx => HSRC.out wx (HSC.out wx hx))) HBC (Lib.hid (by have := HBK.out; omega)) HN3 (Lib.hid ?_)
      intro f w4 hn4 hf4 hc4
      intros
      have hCLL : (colT t o (cn : Int)).length = o.length := colT_len _ _ _
      obtain ⟨col, hcol⟩ : ∃ X, colT t o (cn : Int) = X := ⟨_, rfl⟩
      rw [hcol] at hf4 hCLL
      have HCOLE := Lib.hid hcol
      have HROW : Hid (intE.Row w4 gc col) := Lib.hid (num_row (hCLL ▸ hn4) (hCLL ▸ hf4))
      have HC4 := Lib.hid (HSC.out w4 hc4)
      have HWR4 : Hid (Chg (fun _ => False) wr w4) := Lib.hid (((HWC.out.any (S := fun k => wr.heap.size ≤ k)).trans (hc4.mono (fun k _ e => by have := HBK.out; omega))).fresh)
      have HRB4 : Hid (w4.cell? ⟨bR, 0, none⟩ = some (.int .i32 x) ∧ w4.cell? ⟨bR, 1, none⟩ = some (.int .i32 y) ∧ w4.cell? ⟨bc, 0, none⟩ = some (.slice (some ⟨gc, 0, none⟩) o.length o.length)) := Lib.hid (by
        have hb := HBK.out
        exact ⟨hc4.cellS HRB3.out.1 (fun (e : bR = gc) => by omega), hc4.cellS HRB3.out.2 (fun (e : bR = gc) => by omega), hc4.cellS HBC.out (fun (e : bc = gc) => by omega)⟩)
      have HPH4 : Hid (Ph2 w4 w0.heap.size bo (fun g => if wr.heap.size ≤ g then 1 else τ g) (cols, R, C) (.slice vca cols.length vcc) vr vk) := Lib.hid ((HPH.out.mark (τ' := fun g => if wr.heap.size ≤ g then 1 else τ g) (fun g _ hg => by rw [if_neg (by omega)])).same HWR4.out)
      have HOWC : Hid (intE.In w4 0 (some ⟨gc, 0, none⟩, o.length, o.length) col) := Lib.hid ⟨hCLL.symm, Nat.le_refl _, gc, 0, HROW.out.at' (List.prefix_refl _), fun _ => ⟨rfl, Nat.zero_le _⟩⟩
      have HCLL := Lib.hid hCLL
      clear hn4 hf4 hc4 hcol hCLL HN3 HSC HWC HPH HBC HRB3 HC
      have k0 := HRB4.out.2.2
      go_wp2_with fail
      refine (show Calls Try.prog 30 #[.slice (some ⟨gc, 0, none⟩) o.length o.length, .func (.func 31) #[] #[]] w4 (fun e w' => e = .returned (.bool (!negB col)) ∧ Chg (fun _ => False) w4 w') by
        have := containsIM_any 31 #[] (fun n => decide (0 ≤ n)) col (some ⟨gc, 0, none⟩) o.length 0 w4 eg1 (by rw [HCLL.out]; exact HOWC.out) (gives_pos col w4) (by rw [HCLL.out]; omega)
        rw [any_pos, HCLL.out] at this
        exact this).mono ?_
      rintro e w5 ⟨rfl, hc5⟩
      have HC5 := Lib.hid hc5
      have HPH5 := Lib.hid (HPH4.out.same hc5)
      have HCW5 := Lib.hid (HC4.out.trans hc5.any)
      have HRB5 := Lib.hid (show _ ∧ _ ∧ _ from ⟨hc5.cellS HRB4.out.1 (fun h => h), hc5.cellS HRB4.out.2.1 (fun h => h), hc5.cellS HRB4.out.2.2 (fun h => h)⟩)
      clear hc5 k0 HPH4 HRB4 HC4
      cases hneg : negB col with
      | true =>
        have HZN : Hid (zK t o (k + 1) = (cols, R, C)) := Lib.hid (by rw [zK_neg HRK.out.1 HRK.out.2 (by rw [HCOLE.out]; exact hneg), HZ.out])
        have HPN := Lib.hid (HPH5.out.z HZN.out)
        clear hneg
        go_wp2
        go_roundw
        case rel => exact ⟨k + 1, _, _, _, by omega, by go_num, HPN.out, HCW5.out⟩
        case measure => simp [intOf]; omega
      | false =>
        have HNEG := Lib.hid hneg
        clear hneg
        have HROW5 := Lib.hid (HROW.out.chg HC5.out (fun h => h))
        have HOWC5 := Lib.hid (HOWC.out.same HC5.out)
        clear HROW HOWC
        have k0 := HRB5.out.2.2
        go_wp2_with fail
        refine (indexList_any 33 #[.pointer (some ⟨bc, 0, none⟩)] (fun x => x == col) cols vca vcc w0.heap.size w5 eg2 HPH5.out.cols.lists (gives_col bc w0.heap.size (some ⟨gc, 0, none⟩) o.length 0 col w5 (by rw [HCLL.out]; exact HRB5.out.2.2) (by rw [HCLL.out]; exact HOWC5.out)) HLEN.out.2.2 (fun l hl => by rw [HCOL.out l hl]; omega)).mono ?_
        rintro e w6 ⟨rfl, hc6⟩
        have HPH6 := Lib.hid (HPH5.out.same hc6)
        have HCW6 := Lib.hid (HCW5.out.trans hc6.any)
        have HRB6 := Lib.hid (show _ ∧ _ ∧ _ from ⟨hc6.cellS HRB5.out.1 (fun h => h), hc6.cellS HRB5.out.2.1 (fun h => h), hc6.cellS HRB5.out.2.2 (fun h => h)⟩)
        have HROW6 := Lib.hid (HROW5.out.chg hc6 (fun h => h))
        clear hc6 k0 HPH5 HCW5 HRB5 HROW5 HOWC5
        obtain ⟨m, hm⟩ : ∃ X, idxV (fun x => x == col) cols = X := ⟨_, rfl⟩
        rw [hm]
        have HIX := Lib.hid hm
        have hmb := idxV_bounds (fun x => x == col) cols
        rw [hm] at hmb
        have HIB := Lib.hid hmb
        clear hm hmb
        go_upto_if 86 with (fail)
        go_cut [7, 14, 37] from 37 to 143 (fun c v q w' => ∃ (τ' : Nat → Nat), v = .int .i64 (colN cols col) ∧ q = .int .i64 k ∧ Ph2 w' w0.heap.size bo τ' (colsW cols col, R, C) c vr vk ∧ Chg (fun k => k = bo ∨ w0.heap.size ≤ k) w0 w' ∧ (w'.cell? ⟨bR, 0, none⟩ = some (.int .i32 x) ∧ w'.cell? ⟨bR, 1, none⟩ = some (.int .i32 y)))
        case first =>
          by_cases hm0 : m < 0
          · have d1 : decide (m < 0) = true := by simpa using hm0
            obtain ⟨X, hX1, hX2, hX3⟩ := HPH6.out.cols.x
            have HX := Lib.hid (show _ ∧ _ ∧ _ from ⟨hX1, hX2, hX3⟩)
            obtain ⟨wl, hwl⟩ : ∃ W, W = w6.alloc (.cells #[.slice (some ⟨gc, 0, none⟩) o.length o.length] 23) := ⟨_, rfl⟩
            have hcl : Chg (fun _ => False) w6 wl := by rw [hwl]; exact (Chg.refl _ _).alloc _
            have HPL := Lib.hid (HPH6.out.same hcl)
            have HXL := Lib.hid (show _ ∧ _ from ⟨hX1.same hcl, fun (j : Nat) y l hy hl => (hX3 j y l hy hl).same hcl⟩)
            have HROWL : Hid (TOwn intE wl w0.heap.size (fun g => if wr.heap.size ≤ g then 1 else τ g) 1 (slV (some ⟨gc, 0, none⟩, o.length, o.length)) col) := Lib.hid ⟨.inr ⟨gc, col, by rw [HCLL.out]; rfl, by have := HBK.out; omega, HROW6.out.chg hcl (fun h => h), List.prefix_refl _, by rw [HCLL.out]; unfold maxLen; omega⟩, fun g hg => by
              have e : gc = g := by simpa [Value.ownBlock, slV] using hg
              have := HBK.out
              show (if wr.heap.size ≤ g then 1 else τ g) = 1
              rw [if_pos (by omega)]⟩
            have HBL : Hid (w0.heap.size ≤ wl.heap.size) := Lib.hid (by have := HCW6.out.size; have := hcl.size; omega)
            have HCL6 := Lib.hid (HCW6.out.trans hcl.any)
            have HRL := Lib.hid (show _ ∧ _ from ⟨hcl.cellS HRB6.out.1 (fun h => h), hcl.cellS HRB6.out.2.1 (fun h => h)⟩)
            have HWL := Lib.hid hwl
            have HFAR : Hid (∀ g, (Value.slice vca cols.length vcc).ownBlock = some g → g ≠ bR) := Lib.hid (fun g hg e => by
              have h1 : (if wr.heap.size ≤ g then 1 else τ g) = 0 := HX.out.1.tag g hg
              have h2 := HBK.out
              rw [if_pos (by omega)] at h1
              cases h1)
            have k0 := HRB6.out.2.2
            clear hX1 hX2 hX3 hwl hcl
            go_wp2_with (at_builtin; refine Elt.wpList_append2 listE rfl _ _ 24 24 rfl rfl w0.heap.size (.slice vca cols.length vcc) X [(some ⟨gc, 0, none⟩, o.length, o.length)] (.slice (some ⟨w6.heap.size, 0, none⟩) 1 1) rfl rfl (by have := HXL.out.1.own; rw [HWL.out] at this; exact this) (by have := HBL.out; rw [HWL.out] at this; exact this) (listE.srcLit (Y := [(some ⟨gc, 0, none⟩, o.length, o.length)]) 1 (fun _ _ => trivial)) (fun _ _ => trivial) (by have h1 := HX.out.2.1; have h2 := HLEN.out.2.2; rw [h1]; simp; omega) ?_; intro v' w7 HO7 HC7 HC7b)
            rw [← HWL.out] at HC7 HC7b
            go_meet
            have hW : colsW cols col = cols ++ [col] := by unfold colsW; rw [HIX.out, if_pos hm0]
            have hN : colN cols col = (cols.length : Int) := by unfold colN; rw [HIX.out, if_pos hm0]
            rw [hW, hN]
            exact ⟨_, rfl, rfl, HPL.out.col HXL.out.1 HX.out.2.1 HXL.out.2 HROWL.out HO7.out HC7b.out.1 HC7b.out.2, HCL6.out.trans (HC7.out.mono (fun k _ e => .inr e)), HC7b.out.1.cellS HRL.out.1 (fun e => HFAR.out bR e rfl), HC7b.out.1.cellS HRL.out.2 (fun e => HFAR.out bR e rfl)⟩
          · have d1 : decide (m < 0) = false := by simpa using hm0
            go_wp2
            go_meet
            have hW : colsW cols col = cols := by unfold colsW; rw [HIX.out, if_neg (by omega)]
            have hN : colN cols col = m := by unfold colN; rw [HIX.out, if_neg (by omega)]
            rw [hW, hN]
            exact ⟨_, rfl, rfl, HPH6.out, HCW6.out, HRB6.out.1, HRB6.out.2.1⟩
        case rest =>
          clear HPH6 HCW6 HRB6 HROW6
          obtain ⟨τ', rfl, rfl, hph, hc, hrb⟩ := hcut
          obtain ⟨va7, vc7, rfl, hvc7⟩ := hph.cols.shape
          obtain ⟨ar, cr, rfl, hcr⟩ := hph.r.shape
          obtain ⟨ak, ck, rfl, hck⟩ := hph.k.shape
          have hZN : zK t o (k + 1) = (colsW cols col, mrg R C (x, y) (colN cols col)) := by rw [zK_step HRK.out.1 HRK.out.2, HCOLE.out, HZ.out, foldCol_eq HNEG.out]
          have HNB : Hid (I.Byte (colN cols col)) := Lib.hid (by
            unfold colN
            have h1 := HIB.out
            have h2 := HLEN.out.2.2
            rw [HIX.out]
            split <;> constructor <;> omega)
          obtain ⟨cw, hcw⟩ : ∃ X, colsW cols col = X := ⟨_, rfl⟩
          obtain ⟨m', hm'⟩ : ∃ X, colN cols col = X := ⟨_, rfl⟩
          rw [hcw] at hph hvc7 hZN ⊢
          rw [hm'] at hZN HNB ⊢
          simp only at hph hcr hck
          have hCR := HCRH.out
          rw [hCR] at hph hck
          obtain ⟨nR, hnR⟩ : ∃ X, R.length = X := ⟨_, rfl⟩
          rw [hnR] at hph hcr hck
          have HNR := Lib.hid (show _ ∧ _ from ⟨hnR, hCR.trans hnR⟩)
          have hold := HOLD.out
          simp only at hold
          rw [hCR, hnR] at hold
          have HOLD2 := Lib.hid hold
          clear hold HOLD
          have hnl : nR ≤ 1000000000 := by have := HLEN.out.1; omega
          have HPH := Lib.hid hph
          have HC := Lib.hid hc
          have HRB := Lib.hid hrb
          have HZN := Lib.hid hZN
          clear hph hc hrb hZN hcw hm' hCR hnR
          have o0 := HPH.out.c0
          go_upto_region 24 with (fail)
          clear o0
          -- what the last range and class are
          have HLASTP : Hid (nR ≠ 0 → ∃ (R' : List (Int × Int)) (p : Int × Int) (C' : List Int) (d : Int) (gR gK l : Nat), R = R' ++ [p] ∧ C = C' ++ [d] ∧ nR = l + 1 ∧ R'.length = l ∧ C'.length = l ∧ ar = some ⟨gR, 0, none⟩ ∧ ak = some ⟨gK, 0, none⟩ ∧ wc.cell? ⟨gK, l, none⟩ = some (.int .i64 d) ∧ wc.cell? ⟨gR, l * 2 + 1, none⟩ = some (.int .i32 p.2) ∧ okRng p) := Lib.hid (by
            intro hne
            obtain ⟨hr1, hc1⟩ := HNR.out
            have hRe : R ≠ [] := fun e => hne (by rw [← hr1, e]; rfl)
            have hCe : C ≠ [] := fun e => hne (by rw [← hc1, e]; rfl)
            obtain ⟨R', p, hR⟩ : ∃ R' p, R = R' ++ [p] := ⟨R.dropLast, R.getLast hRe, (List.dropLast_concat_getLast hRe).symm⟩
            obtain ⟨C', d, hCC⟩ : ∃ C' d, C = C' ++ [d] := ⟨C.dropLast, C.getLast hCe, (List.dropLast_concat_getLast hCe).symm⟩
            have l1 : nR = R'.length + 1 := by rw [← hr1, hR]; simp
            have l2 : C'.length = R'.length := by rw [hCC] at hc1; simp at hc1; omega
            have hP := HPH.out
            rw [hR, hCC] at hP
            have e1 : nR = (R' ++ [p]).length := by simp; omega
            have e2 : nR = (C' ++ [d]).length := by simp; omega
            obtain ⟨a1, g1, c1, h1, -, h3, h4⟩ := hP.r.own.at'
            injection h1 with f1
            obtain ⟨ha, -⟩ := h4 (by simp)
            obtain ⟨a2, g2, c2, k1, -, k3, k4⟩ := hP.k.own.at'
            injection k1 with f2
            obtain ⟨hb, -⟩ := k4 (by simp)
            have hok : okRng p := h3.ok p (by simp)
            have hcc : wc.cell? ⟨g2, C'.length, none⟩ = some (.int .i64 d) := by
              have := k3.get (k := C'.length) (x := d) (by simp) (i := 0) (u := .int .i64 d) rfl
              rw [show intE.sz = 1 from rfl] at this
              simpa using this
            have hcr' : wc.cell? ⟨g1, R'.length * 2 + 1, none⟩ = some (.int .i32 p.2) := by
              have := h3.get (k := R'.length) (x := p) (by simp) (i := 1) (u := .int .i32 p.2) rfl
              rw [show rngE.sz = 2 from rfl] at this
              simpa using this
            exact ⟨R', p, C', d, g1, g2, R'.length, hR, hCC, l1, rfl, l2, f1.trans ha, f2.trans hb, l2 ▸ hcc, hcr', hok⟩)
          have HCELL := Lib.hid (show _ ∧ _ ∧ _ ∧ _ from ⟨HPH.out.c0, HPH.out.c1, HRB.out.1, HRB.out.2⟩)
          go_cut [37, 122] from 37 to 143 (fun q b w' => q = .int .i64 k ∧ b = .bool (extB R C x m') ∧ Chg (fun _ => False) wc w')
          case first =>
            -- @dev{
            by_cases hne : nR = 0
            · have HE : Hid (extB R C x m' = false) := Lib.hid (by
                have : R = [] := List.length_eq_zero_iff.1 (HNR.out.1.trans hne)
                rw [this]; exact extB_nil _ _ _)
              subst hne
              refine wp_region_same (fun w' => Chg (fun _ => False) wc w') (by kernel_rfl) (by kernel_rfl) ?_ ?_
              · exact (Chg.refl _ _).drew
              (refine wpC_read rfl (fun _ _ _ h => h) (fun K hK => ?_); apply Exists.intro; refine ⟨fun _ w' _ hC => ?_, ?_⟩; ((skip); go_simp; try with_reducible rfl); (try go_simp); refine hK _ ?_; clear hK K); (refine wpC_read rfl (fun _ _ _ h => h) (fun K hK => ?_); apply Exists.intro; refine ⟨fun _ w' _ hC => ?_, ?_⟩; ((skip); go_simp; try with_reducible rfl); (try go_simp); refine hK _ ?_; clear hK K); (refine wpC_read rfl (fun _ _ _ h => h) (fun K hK => ?_); apply Exists.intro; refine ⟨fun _ w' _ hC => ?_, ?_⟩; ((skip); go_simp; try with_reducible rfl); (try go_simp); refine hK _ ?_; clear hK K); (refine wpC_skip rfl (fun _ _ _ h => h) (fun K hK => ?_); (try go_simp); refine hK _ ?_; clear hK K); (refine wpC_skip rfl (fun _ _ _ h => h) (fun K hK => ?_); (try go_simp); refine hK _ ?_; clear hK K); (refine wpC_skip rfl (fun _ _ _ h => h) (fun K hK => ?_); (try go_simp); refine hK _ ?_; clear hK K); (refine wpC_skip rfl (fun _ _ _ h => h) (fun K hK => ?_); (try go_simp); refine hK _ ?_; clear hK K); (refine wpC_skip rfl (fun _ _ _ h => h) (fun K hK => ?_); (try go_simp); refine hK _ ?_; clear hK K); (refine wpC_skip rfl (fun _ _ _ h => h) (fun K hK => ?_); (try go_simp); refine hK _ ?_; clear hK K); (refine wpC_skip rfl (fun _ _ _ h => h) (fun K hK => ?_); (try go_simp); refine hK _ ?_; clear hK K); (refine wpC_skip rfl (fun _ _ _ h => h) (fun K hK => ?_); (try go_simp); refine hK _ ?_; clear hK K); (refine wpC_read rfl (fun _ _ _ h => h) (fun K hK => ?_); apply Exists.intro; refine ⟨fun _ w' _ hC => ?_, ?_⟩; ((skip); go_simp; try with_reducible rfl); (try go_simp); refine hK _ ?_; clear hK K); (refine wpC_read rfl (fun _ _ _ h => h) (fun K hK => ?_); apply Exists.intro; refine ⟨fun _ w' _ hC => ?_, ?_⟩; ((skip); go_simp; try with_reducible rfl); (try go_simp); refine hK _ ?_; clear hK K); (refine wpC_skip rfl (fun _ _ _ h => h) (fun K hK => ?_); (try go_simp); refine hK _ ?_; clear hK K); (refine wpC_skip rfl (fun _ _ _ h => h) (fun K hK => ?_); (try go_simp); refine hK _ ?_; clear hK K); (refine wpC_skip rfl (fun _ _ _ h => h) (fun K hK => ?_); (try go_simp); refine hK _ ?_; clear hK K); (refine wpC_skip rfl (fun _ _ _ h => h) (fun K hK => ?_); (try go_simp); refine hK _ ?_; clear hK K); (refine wpC_skip rfl (fun _ _ _ h => h) (fun K hK => ?_); (try go_simp); refine hK _ ?_; clear hK K); (refine wpC_skip rfl (fun _ _ _ h => h) (fun K hK => ?_); (try go_simp); refine hK _ ?_; clear hK K); (refine wpC_skip rfl (fun _ _ _ h => h) (fun K hK => ?_); (try go_simp); refine hK _ ?_; clear hK K); (refine wpC_skip rfl (fun _ _ _ h => h) (fun K hK => ?_); (try go_simp); refine hK _ ?_; clear hK K); (refine wpC_skip rfl (fun _ _ _ h => h) (fun K hK => ?_); (try go_simp); refine hK _ ?_; clear hK K); (refine wpC_skip rfl (fun _ _ _ h => h) (fun K hK => ?_); (try go_simp); refine hK _ ?_; clear hK K); (refine wpC_skip rfl (fun _ _ _ h => h) (fun K hK => ?_); (try go_simp); refine hK _ ?_; clear hK K); (refine wpC_skip rfl (fun _ _ _ h => h) (fun K hK => ?_); (try go_simp); refine hK _ ?_; clear hK K); (refine wpC_skip rfl (fun _ _ _ h => h) (fun K hK => ?_); (try go_simp); refine hK _ ?_; clear hK K); (refine wpC_read rfl (fun _ _ _ h => h) (fun K hK => ?_); apply Exists.intro; refine ⟨fun _ w' _ hC => ?_, ?_⟩; ((skip); go_simp; try with_reducible rfl); (try go_simp); refine hK _ ?_; clear hK K)
              refine wpC_nil ?_
              intro wy hCy
              have HCY := Lib.hid hCy
              clear hCy
              go_wp2_with fail
              go_meet
              exact ⟨rfl, by rw [HE.out], HCY.out⟩
            · obtain ⟨R', p, C', d, gR, gK, l, hR, hCC, hnl2, hl1, hl2, rfl, rfl, hk1, hk2, ⟨p1, p2⟩, p3, p4⟩ := HLASTP.out hne
              have HE := Lib.hid (extB_last R' p C' d x m')
              rw [← hR, ← hCC] at HE
              have HK := Lib.hid (show _ ∧ _ from ⟨hk1, hk2⟩)
              have v1 : 0 < nR := by omega
              have v2 : IntKind.i64.wrap ((nR : Int) - 1) = (l : Int) := by rw [IntKind.wrap_i64]; omega
              have v3 : l < nR := by omega
              have v4 : IntKind.i64.wrap p.2 = p.2 := by rw [IntKind.wrap_i64]; omega
              have v5 : IntKind.i64.wrap (p.2 + 1) = p.2 + 1 := by rw [IntKind.wrap_i64]; omega
              have v6 : IntKind.i64.wrap x = x := by have := HXY.out.1; rw [IntKind.wrap_i64]; omega
              clear hR hCC hnl2 hl1 hl2 hk1 hk2 hne
              by_cases hd : d = m'
              · have d1 : (d == m') = true := by simpa using hd
                by_cases hlow : p.2 + 1 = x
                · have d2 : (p.2 + 1 == x) = true := by simpa using hlow
                  have HE2 : Hid (extB R C x m' = true) := Lib.hid (by rw [HE.out]; simp [hd, hlow])
                  clear hd hlow
                  refine wp_region_same (fun w' => Chg (fun _ => False) wc w') (by kernel_rfl) (by kernel_rfl) ?_ ?_
                  · exact (Chg.refl _ _).drew
                  (refine wpC_read rfl (fun _ _ _ h => h) (fun K hK => ?_); apply Exists.intro; refine ⟨fun _ w' _ hC => ?_, ?_⟩; ((skip); go_simp; try with_reducible rfl); (try go_simp); refine hK _ ?_; clear hK K); (refine wpC_read rfl (fun _ _ _ h => h) (fun K hK => ?_); apply Exists.intro; refine ⟨fun _ w' _ hC => ?_, ?_⟩; ((skip); go_simp; try with_reducible rfl); (try go_simp); refine hK _ ?_; clear hK K); (refine wpC_read rfl (fun _ _ _ h => h) (fun K hK => ?_); apply Exists.intro; refine ⟨fun _ w' _ hC => ?_, ?_⟩; ((skip); go_simp; try with_reducible rfl); (try go_simp); refine hK _ ?_; clear hK K); (refine wpC_read rfl (fun _ _ _ h => h) (fun K hK => ?_); apply Exists.intro; refine ⟨fun _ w' _ hC => ?_, ?_⟩; ((skip); go_simp; try with_reducible rfl); (try go_simp); refine hK _ ?_; clear hK K); (refine wpC_read rfl (fun _ _ _ h => h) (fun K hK => ?_); apply Exists.intro; refine ⟨fun _ w' _ hC => ?_, ?_⟩; ((have o0 := hC.cellS HCELL.out.1 (fun h => h); have o1 := hC.cellS HCELL.out.2.1 (fun h => h); have r0 := hC.cellS HCELL.out.2.2.1 (fun h => h); have e1 := hC.cellS HK.out.1 (fun h => h); have e2 := hC.cellS HK.out.2 (fun h => h)); go_simp; try with_reducible rfl); (try go_simp); refine hK _ ?_; clear hK K); (refine wpC_read rfl (fun _ _ _ h => h) (fun K hK => ?_); apply Exists.intro; refine ⟨fun _ w' _ hC => ?_, ?_⟩; ((skip); go_simp; try with_reducible rfl); (try go_simp); refine hK _ ?_; clear hK K); (refine wpC_read rfl (fun _ _ _ h => h) (fun K hK => ?_); apply Exists.intro; refine ⟨fun _ w' _ hC => ?_, ?_⟩; ((skip); go_simp; try with_reducible rfl); (try go_simp); refine hK _ ?_; clear hK K); (refine wpC_read rfl (fun _ _ _ h => h) (fun K hK => ?_); apply Exists.intro; refine ⟨fun _ w' _ hC => ?_, ?_⟩; ((skip); go_simp; try with_reducible rfl); (try go_simp); refine hK _ ?_; clear hK K); (refine wpC_read rfl (fun _ _ _ h => h) (fun K hK => ?_); apply Exists.intro; refine ⟨fun _ w' _ hC => ?_, ?_⟩; ((have o0 := hC.cellS HCELL.out.1 (fun h => h); have o1 := hC.cellS HCELL.out.2.1 (fun h => h); have r0 := hC.cellS HCELL.out.2.2.1 (fun h => h); have e1 := hC.cellS HK.out.1 (fun h => h); have e2 := hC.cellS HK.out.2 (fun h => h)); go_simp; try with_reducible rfl); (try go_simp); refine hK _ ?_; clear hK K); (refine wpC_read rfl (fun _ _ _ h => h) (fun K hK => ?_); apply Exists.intro; refine ⟨fun _ w' _ hC => ?_, ?_⟩; ((skip); go_simp; try with_reducible rfl); (try go_simp); refine hK _ ?_; clear hK K); (refine wpC_read rfl (fun _ _ _ h => h) (fun K hK => ?_); apply Exists.intro; refine ⟨fun _ w' _ hC => ?_, ?_⟩; ((skip); go_simp; try with_reducible rfl); (try go_simp); refine hK _ ?_; clear hK K); (refine wpC_read rfl (fun _ _ _ h => h) (fun K hK => ?_); apply Exists.intro; refine ⟨fun _ w' _ hC => ?_, ?_⟩; ((skip); go_simp; try with_reducible rfl); (try go_simp); refine hK _ ?_; clear hK K); (refine wpC_read rfl (fun _ _ _ h => h) (fun K hK => ?_); apply Exists.intro; refine ⟨fun _ w' _ hC => ?_, ?_⟩; ((skip); go_simp; try with_reducible rfl); (try go_simp); refine hK _ ?_; clear hK K); (refine wpC_read rfl (fun _ _ _ h => h) (fun K hK => ?_); apply Exists.intro; refine ⟨fun _ w' _ hC => ?_, ?_⟩; ((skip); go_simp; try with_reducible rfl); (try go_simp); refine hK _ ?_; clear hK K); (refine wpC_read rfl (fun _ _ _ h => h) (fun K hK => ?_); apply Exists.intro; refine ⟨fun _ w' _ hC => ?_, ?_⟩; ((have o0 := hC.cellS HCELL.out.1 (fun h => h); have o1 := hC.cellS HCELL.out.2.1 (fun h => h); have r0 := hC.cellS HCELL.out.2.2.1 (fun h => h); have e1 := hC.cellS HK.out.1 (fun h => h); have e2 := hC.cellS HK.out.2 (fun h => h)); go_simp; try with_reducible rfl); (try go_simp); refine hK _ ?_; clear hK K); (refine wpC_read rfl (fun _ _ _ h => h) (fun K hK => ?_); apply Exists.intro; refine ⟨fun _ w' _ hC => ?_, ?_⟩; ((skip); go_simp; try with_reducible rfl); (try go_simp); refine hK _ ?_; clear hK K); (refine wpC_read rfl (fun _ _ _ h => h) (fun K hK => ?_); apply Exists.intro; refine ⟨fun _ w' _ hC => ?_, ?_⟩; ((skip); go_simp; try with_reducible rfl); (try go_simp); refine hK _ ?_; clear hK K); (refine wpC_read rfl (fun _ _ _ h => h) (fun K hK => ?_); apply Exists.intro; refine ⟨fun _ w' _ hC => ?_, ?_⟩; ((skip); go_simp; try with_reducible rfl); (try go_simp); refine hK _ ?_; clear hK K); (refine wpC_read rfl (fun _ _ _ h => h) (fun K hK => ?_); apply Exists.intro; refine ⟨fun _ w' _ hC => ?_, ?_⟩; ((skip); go_simp; try with_reducible rfl); (try go_simp); refine hK _ ?_; clear hK K); (refine wpC_read rfl (fun _ _ _ h => h) (fun K hK => ?_); apply Exists.intro; refine ⟨fun _ w' _ hC => ?_, ?_⟩; ((have o0 := hC.cellS HCELL.out.1 (fun h => h); have o1 := hC.cellS HCELL.out.2.1 (fun h => h); have r0 := hC.cellS HCELL.out.2.2.1 (fun h => h); have e1 := hC.cellS HK.out.1 (fun h => h); have e2 := hC.cellS HK.out.2 (fun h => h)); go_simp; try with_reducible rfl); (try go_simp); refine hK _ ?_; clear hK K); (refine wpC_read rfl (fun _ _ _ h => h) (fun K hK => ?_); apply Exists.intro; refine ⟨fun _ w' _ hC => ?_, ?_⟩; ((skip); go_simp; try with_reducible rfl); (try go_simp); refine hK _ ?_; clear hK K); (refine wpC_read rfl (fun _ _ _ h => h) (fun K hK => ?_); apply Exists.intro; refine ⟨fun _ w' _ hC => ?_, ?_⟩; ((skip); go_simp; try with_reducible rfl); (try go_simp); refine hK _ ?_; clear hK K); (refine wpC_read rfl (fun _ _ _ h => h) (fun K hK => ?_); apply Exists.intro; refine ⟨fun _ w' _ hC => ?_, ?_⟩; ((skip); go_simp; try with_reducible rfl); (try go_simp); refine hK _ ?_; clear hK K); (refine wpC_read rfl (fun _ _ _ h => h) (fun K hK => ?_); apply Exists.intro; refine ⟨fun _ w' _ hC => ?_, ?_⟩; ((have o0 := hC.cellS HCELL.out.1 (fun h => h); have o1 := hC.cellS HCELL.out.2.1 (fun h => h); have r0 := hC.cellS HCELL.out.2.2.1 (fun h => h); have e1 := hC.cellS HK.out.1 (fun h => h); have e2 := hC.cellS HK.out.2 (fun h => h)); go_simp; try with_reducible rfl); (try go_simp); refine hK _ ?_; clear hK K); (refine wpC_read rfl (fun _ _ _ h => h) (fun K hK => ?_); apply Exists.intro; refine ⟨fun _ w' _ hC => ?_, ?_⟩; ((skip); go_simp; try with_reducible rfl); (try go_simp); refine hK _ ?_; clear hK K); (refine wpC_read rfl (fun _ _ _ h => h) (fun K hK => ?_); apply Exists.intro; refine ⟨fun _ w' _ hC => ?_, ?_⟩; ((skip); go_simp; try with_reducible rfl); (try go_simp); refine hK _ ?_; clear hK K); (refine wpC_read rfl (fun _ _ _ h => h) (fun K hK => ?_); apply Exists.intro; refine ⟨fun _ w' _ hC => ?_, ?_⟩; ((skip); go_simp; try with_reducible rfl); (try go_simp); refine hK _ ?_; clear hK K)
                  refine wpC_nil ?_
                  intro wy hCy
                  have HCY := Lib.hid hCy
                  clear hCy
                  go_wp2_with fail
                  go_meet
                  exact ⟨rfl, by rw [HE2.out], HCY.out⟩
                · have d2 : (p.2 + 1 == x) = false := by simpa using hlow
                  have HE2 : Hid (extB R C x m' = false) := Lib.hid (by rw [HE.out]; simp [hd, hlow])
                  clear hd hlow
                  refine wp_region_same (fun w' => Chg (fun _ => False) wc w') (by kernel_rfl) (by kernel_rfl) ?_ ?_
                  · exact (Chg.refl _ _).drew
                  (refine wpC_read rfl (fun _ _ _ h => h) (fun K hK => ?_); apply Exists.intro; refine ⟨fun _ w' _ hC => ?_, ?_⟩; ((skip); go_simp; try with_reducible rfl); (try go_simp); refine hK _ ?_; clear hK K); (refine wpC_read rfl (fun _ _ _ h => h) (fun K hK => ?_); apply Exists.intro; refine ⟨fun _ w' _ hC => ?_, ?_⟩; ((skip); go_simp; try with_reducible rfl); (try go_simp); refine hK _ ?_; clear hK K); (refine wpC_read rfl (fun _ _ _ h => h) (fun K hK => ?_); apply Exists.intro; refine ⟨fun _ w' _ hC => ?_, ?_⟩; ((skip); go_simp; try with_reducible rfl); (try go_simp); refine hK _ ?_; clear hK K); (refine wpC_read rfl (fun _ _ _ h => h) (fun K hK => ?_); apply Exists.intro; refine ⟨fun _ w' _ hC => ?_, ?_⟩; ((skip); go_simp; try with_reducible rfl); (try go_simp); refine hK _ ?_; clear hK K); (refine wpC_read rfl (fun _ _ _ h => h) (fun K hK => ?_); apply Exists.intro; refine ⟨fun _ w' _ hC => ?_, ?_⟩; ((have o0 := hC.cellS HCELL.out.1 (fun h => h); have o1 := hC.cellS HCELL.out.2.1 (fun h => h); have r0 := hC.cellS HCELL.out.2.2.1 (fun h => h); have e1 := hC.cellS HK.out.1 (fun h => h); have e2 := hC.cellS HK.out.2 (fun h => h)); go_simp; try with_reducible rfl); (try go_simp); refine hK _ ?_; clear hK K); (refine wpC_read rfl (fun _ _ _ h => h) (fun K hK => ?_); apply Exists.intro; refine ⟨fun _ w' _ hC => ?_, ?_⟩; ((skip); go_simp; try with_reducible rfl); (try go_simp); refine hK _ ?_; clear hK K); (refine wpC_read rfl (fun _ _ _ h => h) (fun K hK => ?_); apply Exists.intro; refine ⟨fun _ w' _ hC => ?_, ?_⟩; ((skip); go_simp; try with_reducible rfl); (try go_simp); refine hK _ ?_; clear hK K); (refine wpC_read rfl (fun _ _ _ h => h) (fun K hK => ?_); apply Exists.intro; refine ⟨fun _ w' _ hC => ?_, ?_⟩; ((skip); go_simp; try with_reducible rfl); (try go_simp); refine hK _ ?_; clear hK K); (refine wpC_read rfl (fun _ _ _ h => h) (fun K hK => ?_); apply Exists.intro; refine ⟨fun _ w' _ hC => ?_, ?_⟩; ((have o0 := hC.cellS HCELL.out.1 (fun h => h); have o1 := hC.cellS HCELL.out.2.1 (fun h => h); have r0 := hC.cellS HCELL.out.2.2.1 (fun h => h); have e1 := hC.cellS HK.out.1 (fun h => h); have e2 := hC.cellS HK.out.2 (fun h => h)); go_simp; try with_reducible rfl); (try go_simp); refine hK _ ?_; clear hK K); (refine wpC_read rfl (fun _ _ _ h => h) (fun K hK => ?_); apply Exists.intro; refine ⟨fun _ w' _ hC => ?_, ?_⟩; ((skip); go_simp; try with_reducible rfl); (try go_simp); refine hK _ ?_; clear hK K); (refine wpC_read rfl (fun _ _ _ h => h) (fun K hK => ?_); apply Exists.intro; refine ⟨fun _ w' _ hC => ?_, ?_⟩; ((skip); go_simp; try with_reducible rfl); (try go_simp); refine hK _ ?_; clear hK K); (refine wpC_read rfl (fun _ _ _ h => h) (fun K hK => ?_); apply Exists.intro; refine ⟨fun _ w' _ hC => ?_, ?_⟩; ((skip); go_simp; try with_reducible rfl); (try go_simp); refine hK _ ?_; clear hK K); (refine wpC_read rfl (fun _ _ _ h => h) (fun K hK => ?_); apply Exists.intro; refine ⟨fun _ w' _ hC => ?_, ?_⟩; ((skip); go_simp; try with_reducible rfl); (try go_simp); refine hK _ ?_; clear hK K); (refine wpC_read rfl (fun _ _ _ h => h) (fun K hK => ?_); apply Exists.intro; refine ⟨fun _ w' _ hC => ?_, ?_⟩; ((skip); go_simp; try with_reducible rfl); (try go_simp); refine hK _ ?_; clear hK K); (refine wpC_read rfl (fun _ _ _ h => h) (fun K hK => ?_); apply Exists.intro; refine ⟨fun _ w' _ hC => ?_, ?_⟩; ((have o0 := hC.cellS HCELL.out.1 (fun h => h); have o1 := hC.cellS HCELL.out.2.1 (fun h => h); have r0 := hC.cellS HCELL.out.2.2.1 (fun h => h); have e1 := hC.cellS HK.out.1 (fun h => h); have e2 := hC.cellS HK.out.2 (fun h => h)); go_simp; try with_reducible rfl); (try go_simp); refine hK _ ?_; clear hK K); (refine wpC_read rfl (fun _ _ _ h => h) (fun K hK => ?_); apply Exists.intro; refine ⟨fun _ w' _ hC => ?_, ?_⟩; ((skip); go_simp; try with_reducible rfl); (try go_simp); refine hK _ ?_; clear hK K); (refine wpC_read rfl (fun _ _ _ h => h) (fun K hK => ?_); apply Exists.intro; refine ⟨fun _ w' _ hC => ?_, ?_⟩; ((skip); go_simp; try with_reducible rfl); (try go_simp); refine hK _ ?_; clear hK K); (refine wpC_read rfl (fun _ _ _ h => h) (fun K hK => ?_); apply Exists.intro; refine ⟨fun _ w' _ hC => ?_, ?_⟩; ((skip); go_simp; try with_reducible rfl); (try go_simp); refine hK _ ?_; clear hK K); (refine wpC_read rfl (fun _ _ _ h => h) (fun K hK => ?_); apply Exists.intro; refine ⟨fun _ w' _ hC => ?_, ?_⟩; ((skip); go_simp; try with_reducible rfl); (try go_simp); refine hK _ ?_; clear hK K); (refine wpC_read rfl (fun _ _ _ h => h) (fun K hK => ?_); apply Exists.intro; refine ⟨fun _ w' _ hC => ?_, ?_⟩; ((have o0 := hC.cellS HCELL.out.1 (fun h => h); have o1 := hC.cellS HCELL.out.2.1 (fun h => h); have r0 := hC.cellS HCELL.out.2.2.1 (fun h => h); have e1 := hC.cellS HK.out.1 (fun h => h); have e2 := hC.cellS HK.out.2 (fun h => h)); go_simp; try with_reducible rfl); (try go_simp); refine hK _ ?_; clear hK K); (refine wpC_read rfl (fun _ _ _ h => h) (fun K hK => ?_); apply Exists.intro; refine ⟨fun _ w' _ hC => ?_, ?_⟩; ((skip); go_simp; try with_reducible rfl); (try go_simp); refine hK _ ?_; clear hK K); (refine wpC_read rfl (fun _ _ _ h => h) (fun K hK => ?_); apply Exists.intro; refine ⟨fun _ w' _ hC => ?_, ?_⟩; ((skip); go_simp; try with_reducible rfl); (try go_simp); refine hK _ ?_; clear hK K); (refine wpC_read rfl (fun _ _ _ h => h) (fun K hK => ?_); apply Exists.intro; refine ⟨fun _ w' _ hC => ?_, ?_⟩; ((skip); go_simp; try with_reducible rfl); (try go_simp); refine hK _ ?_; clear hK K); (refine wpC_read rfl (fun _ _ _ h => h) (fun K hK => ?_); apply Exists.intro; refine ⟨fun _ w' _ hC => ?_, ?_⟩; ((have o0 := hC.cellS HCELL.out.1 (fun h => h); have o1 := hC.cellS HCELL.out.2.1 (fun h => h); have r0 := hC.cellS HCELL.out.2.2.1 (fun h => h); have e1 := hC.cellS HK.out.1 (fun h => h); have e2 := hC.cellS HK.out.2 (fun h => h)); go_simp; try with_reducible rfl); (try go_simp); refine hK _ ?_; clear hK K); (refine wpC_read rfl (fun _ _ _ h => h) (fun K hK => ?_); apply Exists.intro; refine ⟨fun _ w' _ hC => ?_, ?_⟩; ((skip); go_simp; try with_reducible rfl); (try go_simp); refine hK _ ?_; clear hK K); (refine wpC_read rfl (fun _ _ _ h => h) (fun K hK => ?_); apply Exists.intro; refine ⟨fun _ w' _ hC => ?_, ?_⟩; ((skip); go_simp; try with_reducible rfl); (try go_simp); refine hK _ ?_; clear hK K); (refine wpC_read rfl (fun _ _ _ h => h) (fun K hK => ?_); apply Exists.intro; refine ⟨fun _ w' _ hC => ?_, ?_⟩; ((skip); go_simp; try with_reducible rfl); (try go_simp); refine hK _ ?_; clear hK K)
                  refine wpC_nil ?_
                  intro wy hCy
                  have HCY := Lib.hid hCy
                  clear hCy
                  go_wp2_with fail
                  go_meet
                  exact ⟨rfl, by rw [HE2.out], HCY.out⟩
              · have d1 : (d == m') = false := by simpa using hd
                have HE2 : Hid (extB R C x m' = false) := Lib.hid (by rw [HE.out]; simp [hd])
                clear hd
                refine wp_region_same (fun w' => Chg (fun _ => False) wc w') (by kernel_rfl) (by kernel_rfl) ?_ ?_
                · exact (Chg.refl _ _).drew
                (refine wpC_read rfl (fun _ _ _ h => h) (fun K hK => ?_); apply Exists.intro; refine ⟨fun _ w' _ hC => ?_, ?_⟩; ((skip); go_simp; try with_reducible rfl); (try go_simp); refine hK _ ?_; clear hK K); (refine wpC_read rfl (fun _ _ _ h => h) (fun K hK => ?_); apply Exists.intro; refine ⟨fun _ w' _ hC => ?_, ?_⟩; ((skip); go_simp; try with_reducible rfl); (try go_simp); refine hK _ ?_; clear hK K); (refine wpC_read rfl (fun _ _ _ h => h) (fun K hK => ?_); apply Exists.intro; refine ⟨fun _ w' _ hC => ?_, ?_⟩; ((skip); go_simp; try with_reducible rfl); (try go_simp); refine hK _ ?_; clear hK K); (refine wpC_read rfl (fun _ _ _ h => h) (fun K hK => ?_); apply Exists.intro; refine ⟨fun _ w' _ hC => ?_, ?_⟩; ((skip); go_simp; try with_reducible rfl); (try go_simp); refine hK _ ?_; clear hK K); (refine wpC_read rfl (fun _ _ _ h => h) (fun K hK => ?_); apply Exists.intro; refine ⟨fun _ w' _ hC => ?_, ?_⟩; ((have o0 := hC.cellS HCELL.out.1 (fun h => h); have o1 := hC.cellS HCELL.out.2.1 (fun h => h); have e1 := hC.cellS HK.out.1 (fun h => h)); go_simp; try with_reducible rfl); (try go_simp); refine hK _ ?_; clear hK K); (refine wpC_read rfl (fun _ _ _ h => h) (fun K hK => ?_); apply Exists.intro; refine ⟨fun _ w' _ hC => ?_, ?_⟩; ((skip); go_simp; try with_reducible rfl); (try go_simp); refine hK _ ?_; clear hK K); (refine wpC_read rfl (fun _ _ _ h => h) (fun K hK => ?_); apply Exists.intro; refine ⟨fun _ w' _ hC => ?_, ?_⟩; ((skip); go_simp; try with_reducible rfl); (try go_simp); refine hK _ ?_; clear hK K); (refine wpC_read rfl (fun _ _ _ h => h) (fun K hK => ?_); apply Exists.intro; refine ⟨fun _ w' _ hC => ?_, ?_⟩; ((skip); go_simp; try with_reducible rfl); (try go_simp); refine hK _ ?_; clear hK K); (refine wpC_read rfl (fun _ _ _ h => h) (fun K hK => ?_); apply Exists.intro; refine ⟨fun _ w' _ hC => ?_, ?_⟩; ((have o0 := hC.cellS HCELL.out.1 (fun h => h); have o1 := hC.cellS HCELL.out.2.1 (fun h => h); have e1 := hC.cellS HK.out.1 (fun h => h)); go_simp; try with_reducible rfl); (try go_simp); refine hK _ ?_; clear hK K); (refine wpC_read rfl (fun _ _ _ h => h) (fun K hK => ?_); apply Exists.intro; refine ⟨fun _ w' _ hC => ?_, ?_⟩; ((skip); go_simp; try with_reducible rfl); (try go_simp); refine hK _ ?_; clear hK K); (refine wpC_read rfl (fun _ _ _ h => h) (fun K hK => ?_); apply Exists.intro; refine ⟨fun _ w' _ hC => ?_, ?_⟩; ((skip); go_simp; try with_reducible rfl); (try go_simp); refine hK _ ?_; clear hK K); (refine wpC_read rfl (fun _ _ _ h => h) (fun K hK => ?_); apply Exists.intro; refine ⟨fun _ w' _ hC => ?_, ?_⟩; ((skip); go_simp; try with_reducible rfl); (try go_simp); refine hK _ ?_; clear hK K); (refine wpC_read rfl (fun _ _ _ h => h) (fun K hK => ?_); apply Exists.intro; refine ⟨fun _ w' _ hC => ?_, ?_⟩; ((skip); go_simp; try with_reducible rfl); (try go_simp); refine hK _ ?_; clear hK K); (refine wpC_skip rfl (fun _ _ _ h => h) (fun K hK => ?_); (try go_simp); refine hK _ ?_; clear hK K); (refine wpC_skip rfl (fun _ _ _ h => h) (fun K hK => ?_); (try go_simp); refine hK _ ?_; clear hK K); (refine wpC_skip rfl (fun _ _ _ h => h) (fun K hK => ?_); (try go_simp); refine hK _ ?_; clear hK K); (refine wpC_skip rfl (fun _ _ _ h => h) (fun K hK => ?_); (try go_simp); refine hK _ ?_; clear hK K); (refine wpC_skip rfl (fun _ _ _ h => h) (fun K hK => ?_); (try go_simp); refine hK _ ?_; clear hK K); (refine wpC_skip rfl (fun _ _ _ h => h) (fun K hK => ?_); (try go_simp); refine hK _ ?_; clear hK K); (refine wpC_skip rfl (fun _ _ _ h => h) (fun K hK => ?_); (try go_simp); refine hK _ ?_; clear hK K); (refine wpC_skip rfl (fun _ _ _ h => h) (fun K hK => ?_); (try go_simp); refine hK _ ?_; clear hK K); (refine wpC_skip rfl (fun _ _ _ h => h) (fun K hK => ?_); (try go_simp); refine hK _ ?_; clear hK K); (refine wpC_skip rfl (fun _ _ _ h => h) (fun K hK => ?_); (try go_simp); refine hK _ ?_; clear hK K); (refine wpC_skip rfl (fun _ _ _ h => h) (fun K hK => ?_); (try go_simp); refine hK _ ?_; clear hK K); (refine wpC_skip rfl (fun _ _ _ h => h) (fun K hK => ?_); (try go_simp); refine hK _ ?_; clear hK K); (refine wpC_skip rfl (fun _ _ _ h => h) (fun K hK => ?_); (try go_simp); refine hK _ ?_; clear hK K); (refine wpC_read rfl (fun _ _ _ h => h) (fun K hK => ?_); apply Exists.intro; refine ⟨fun _ w' _ hC => ?_, ?_⟩; ((skip); go_simp; try with_reducible rfl); (try go_simp); refine hK _ ?_; clear hK K)
                refine wpC_nil ?_
                intro wy hCy
                have HCY := Lib.hid hCy
                clear hCy
                go_wp2_with fail
                go_meet
                exact ⟨rfl, by rw [HE2.out], HCY.out⟩
            -- @dev}
          case rest =>
            obtain ⟨rfl, rfl, hcy⟩ := hcut
            have HCY := Lib.hid hcy
            have HPHY := Lib.hid (HPH.out.same hcy)
            have HCWY := Lib.hid (HC.out.trans hcy.any)
            have HCELLY := Lib.hid (show _ ∧ _ from ⟨hcy.cellS HRB.out.1 (fun h => h), hcy.cellS HRB.out.2 (fun h => h)⟩)
            clear hcy HCELL HPH HC HRB
            cases hext : extB R C x m' with
            | true =>
              have hne : nR ≠ 0 := fun e => by
                have : R = [] := List.length_eq_zero_iff.1 (HNR.out.1.trans e)
                rw [this, extB_nil] at hext
                cases hext
              obtain ⟨R', p, C', d, gR, gK, l, hR, hCC, hnl2, hl1, hl2, rfl, rfl, hk1, hk2, hok⟩ := HLASTP.out hne
              rw [hR] at hext
              have HHI := Lib.hid (HPHY.out.high (R' := R') (p := p) hR (x := y) ⟨hok.1, HXY.out.2⟩)
              rw [hl1] at HHI
              obtain ⟨⟨e1, e2⟩, hfin, hfc, hfb⟩ := HHI.out
              have HZ2 : Hid (zK t o (k + 1) = (cw, R' ++ [(p.1, y)], C)) := Lib.hid (by rw [HZN.out, hR, mrg_ext hext])
              have HF := Lib.hid (hfin.z HZ2.out)
              have HCF := Lib.hid (HCWY.out.trans (hfc.mono (T := fun k => k = bo ∨ w0.heap.size ≤ k) (fun k _ e => by omega)))
              have o0 := HPHY.out.c0
              have r1 := HCELLY.out.2
              have v2 : (nR : Int) - 1 = (l : Int) := by omega
              have v3 : l < nR := by omega
              clear hfin hfc hfb hne hext hR hCC hnl2 hl1 hl2 hk1 hk2 hok HHI HLASTP
              go_wp2
              go_roundw
              case rel => exact ⟨k + 1, _, _, _, by omega, by go_num, HF.out, HCF.out⟩
              case measure => simp [intOf]; omega
            | false =>
              have HZ2 : Hid (zK t o (k + 1) = (cw, R ++ [(x, y)], C ++ [m'])) := Lib.hid (by rw [HZN.out, mrg_not hext])
              clear hext HLASTP
              go_upto_region 26 with (fail)
              obtain ⟨wd, hwd⟩ : ∃ W, wc.drew = W := ⟨_, rfl⟩
              have HDD : Hid (Chg (fun _ => False) wc wd) := Lib.hid (by rw [← hwd]; exact (Chg.refl _ _).drew)
              have HPD := Lib.hid (HPHY.out.same HDD.out)
              have HBD : Hid (w0.heap.size ≤ wd.heap.size) := Lib.hid (by have := HCWY.out.size; have := HDD.out.size; omega)
              have HNB' : Hid (¬ ((Value.slice ar nR cr).ownBlock = some bo ∨ (Value.slice ak nR ck).ownBlock = some bo) ∧ ¬ ((Value.slice ar nR cr).ownBlock = some bR ∨ (Value.slice ak nR ck).ownBlock = some bR)) := Lib.hid (by
                have hb := HPD.out.hb
                have hk := HBK.out
                refine ⟨?_, ?_⟩ <;> rintro (e | e)
                · have := (HPD.out.r.own.blk e).1; omega
                · have := (HPD.out.k.own.blk e).1; omega
                · have := HOLD2.out.1 _ e; omega
                · have := HOLD2.out.2 _ e; omega)
              have HRD := Lib.hid (show _ ∧ _ ∧ _ ∧ _ from ⟨HPD.out.c0, HPD.out.c1, HDD.out.cellS HCELLY.out.1 (fun h => h), HDD.out.cellS HCELLY.out.2 (fun h => h)⟩)
              refine wp_region_late (fun x => Chg (fun k => (Value.slice ar nR cr).ownBlock = some k ∨ (Value.slice ak nR ck).ownBlock = some k) wd x) (fun i => decide (11 ≤ i)) (by kernel_rfl) ?_
              show wpAnyL _ _ _ _ _ _ 14 (Array.replicate 14 false) _ wc.drew
              rw [hwd]
              clear hwd HPHY HCELLY
              have HSS : Hid (Chg (fun k => (Value.slice ar nR cr).ownBlock = some k ∨ (Value.slice ak nR ck).ownBlock = some k) wd wd) := Lib.hid (Chg.refl _ _)
              (refine late_read (i := 0) rfl (by kernel_rfl) (fun v c a w h => hpn c a _ v w h) rfl HSS.out (fun K hK => ?_); apply Exists.intro; refine ⟨fun w' hC => ?_, ?_⟩; ((skip); go_simp; try with_reducible rfl); (try go_simp); refine hK _ ?_; clear hK K)
              (refine late_read (i := 1) rfl (by kernel_rfl) (fun v c a w h => hpn c a _ v w h) rfl HSS.out (fun K hK => ?_); apply Exists.intro; refine ⟨fun w' hC => ?_, ?_⟩; ((have o0 := hC.cellS HRD.out.1 HNB'.out.1); go_simp; try with_reducible rfl); (try go_simp); refine hK _ ?_; clear hK K)
              (refine late_read (i := 2) rfl (by kernel_rfl) (fun v c a w h => hpn c a _ v w h) rfl HSS.out (fun K hK => ?_); apply Exists.intro; refine ⟨fun w' hC => ?_, ?_⟩; ((have r0 := hC.cellS HRD.out.2.2.1 HNB'.out.2; have r1 := hC.cellS HRD.out.2.2.2 HNB'.out.2); go_simp; try with_reducible rfl); (try go_simp); refine hK _ ?_; clear hK K)
              (refine late_read (i := 5) rfl (by kernel_rfl) (fun v c a w h => hpn c a _ v w h) rfl HSS.out (fun K hK => ?_); apply Exists.intro; refine ⟨fun w' hC => ?_, ?_⟩; ((skip); go_simp; try with_reducible rfl); (try go_simp); refine hK _ ?_; clear hK K)
              (refine late_read (i := 6) rfl (by kernel_rfl) (fun v c a w h => hpn c a _ v w h) rfl HSS.out (fun K hK => ?_); apply Exists.intro; refine ⟨fun w' hC => ?_, ?_⟩; ((have o1 := hC.cellS HRD.out.2.1 HNB'.out.1); go_simp; try with_reducible rfl); (try go_simp); refine hK _ ?_; clear hK K)
              (refine late_read (i := 7) rfl (by kernel_rfl) (fun v c a w h => hpn c a _ v w h) rfl HSS.out (fun K hK => ?_); apply Exists.intro; refine ⟨fun w' hC => ?_, ?_⟩; ((skip); go_simp; try with_reducible rfl); (try go_simp); refine hK _ ?_; clear hK K)
              refine late_two_own rngE intE 3 4 10 8 9 (by kernel_rfl) rfl rfl rfl rfl rfl rfl rfl rfl rfl rfl (by kernel_rfl) (by kernel_rfl) (fun v c a w h => hpn c a _ v w h) 134 139 (.tmp 132) (.tmp 137) rfl rfl rfl rfl (fun e => by injection e with e; cases e) (fun e => by injection e with e; cases e) (of_decide_eq_true (by kernel_rfl)) (of_decide_eq_true (by kernel_rfl)) (.slice ar nR cr) (.slice ak nR ck) rfl rfl (x, y) m' (HRY.out (x, y) (by simp)) HNB.out 54 3 R C τ' 2 3 w0.heap.size (by decide) HBD.out HPD.out.r HPD.out.k (by have := HLEN.out.1; omega) (by have := HLEN.out.2.1; omega) (fun w' => by go_simp; rfl) (fun w' => by go_simp; rfl) (.pointer (some ⟨bo, 0, none⟩)) (fun w' => by go_simp) (fun w' h => h) ?_
              intro v1 v2 v u w9 h2 K hK
              obtain ⟨⟨k1, k2⟩, ⟨k3, k4⟩, hph9, hc9⟩ := HPD.out.two h2
              obtain ⟨v1a, v1n, v1c, rfl⟩ := h2.a.shape3
              obtain ⟨u1a, u1n, u1c, rfl⟩ := h2.b.shape3
              have HF := Lib.hid (hph9.z HZ2.out)
              have HCF := Lib.hid (HCWY.out.trans (HDD.out.any.trans hc9))
              clear h2 hph9 hc9
              (try go_simp)
              refine hK _ ?_
              clear hK K
              (refine late_store (i := 11) (by kernel_rfl) rfl rfl (fun K hK => ?_); apply Exists.intro; refine ⟨?_, (fun h => absurd h (by decide)), ?_⟩; ((skip); go_simp; try first | with_reducible rfl | exact ⟨rfl, rfl⟩); (try go_simp); refine hK _ _ ?_; clear hK K)
              (refine late_turn (i := 12) (by kernel_rfl) rfl rfl (fun K hK => ?_); apply Exists.intro; apply Exists.intro; refine ⟨?_, ?_, ?_⟩; ((skip); go_simp; try first | with_reducible rfl | exact ⟨rfl, rfl⟩); (exact fun h => absurd h (by decide)); (try go_simp); refine hK _ _ ?_; clear hK K)
              (refine late_store (i := 13) (by kernel_rfl) rfl rfl (fun K hK => ?_); apply Exists.intro; refine ⟨?_, (fun h => absurd h (by decide)), ?_⟩; ((skip); go_simp; try first | with_reducible rfl | exact ⟨rfl, rfl⟩); (try go_simp); refine hK _ _ ?_; clear hK K)
              refine late_done (by kernel_rfl) ?_ _
              clear k1 k2 k3 k4
              go_wp2
              go_roundw
              case rel => exact ⟨k + 1, _, _, _, by omega, by go_num, HF.out, HCF.out⟩
              case measure => simp [intOf]; omega
    · obtain rfl : k = t.r.length := by omega
      have b1 : decide ((t.r.length : Int) < (t.r.length : Int)) = false := by simp
      have HFIN := Lib.hid (HPH.out.z (z' := leastZ t o) (by rw [← HZ.out, zK_all HCLEN.out]))
      go_wp2_with fail
      exact HEX.out τ _ vr vk wr HFIN.out HC.out _ _ _ _ _ _ _ _ _ _ _ _ _ _ _ _ _ _ _ _ _ _ _ _ _ _ _ _ _ _ _ _ _ _ _ _ _ _ _ _ _ _ _ _ _ _ _ _ _ _ _ _ _ _ _ _ _ _ _ _ _ _ _ _ _ _ _ _ _ _ _ _ _ _ _ _ _ _ _ _ _ _ _ _ _ _ _ _ _ _ _ _ _ _ _ _ _ _ _ _ _ _ _ _ _ _ _ _ _ _ _ _ _ _
end Go.Proofs.Ytodohgckncnipaa
