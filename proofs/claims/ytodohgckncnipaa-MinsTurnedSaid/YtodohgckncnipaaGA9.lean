/- The program's Least: the rows, the ends. The program's Least: the walk. -/
import Derived.Test.YtodohgckncnipaaGA8
import Derived.Test.YtodohgckncnipaaGA7
/- The program's Least: the rows, the ends. -/
namespace Go.Proofs.Ytodohgckncnipaa
open Go.RowKit Go.Maps

noncomputable def LstEBody : Code := ((Try.f10.body.map loopsOf).getD [])[2]?.getD .skip

theorem rowI_get {cols : List (List Int)} {i c : Nat} {l : List Int} {x : Int} (h : cols[c]? = some l) (hx : l[i]? = some x) : (rowI cols i).getD c 0 = x := by
  unfold rowI
  rw [List.getD_eq_getElem?_getD, List.getElem?_map, h]
  simp [hx]
set_option maxRecDepth 100000 in
set_option maxHeartbeats 16000000 in
theorem rowsE_any (t : TabD) (o : List Nat) (F : Nat → Int) (cols : List (List Int)) (bt bo gF gm rc cc nc ec vc vcc BC : Nat) (ra ca na ea va vca : Option Addr) (vr vk : Value) (w0 : World)
    (HM : Hid (MayS t)) (HF : Hid (Fair t)) (HO : Hid (Ord t o)) (HCOL : Hid (∀ col ∈ cols, col.length = o.length)) (hcl : cols.length ≤ 1000000000) (_ : cols.length ≤ vcc)
    (HSRC : Hid (∀ wx, Chg (fun k => k = bo ∨ w0.heap.size ≤ k) w0 wx → LSrc t o F bt gF gm (ra, t.r.length, rc) (ca, t.c.length, cc) (na, t.n.length, nc) (ea, t.e.length, ec) (va, o.length, vc) wx))
    (HLI : Hid (∀ wx, Chg (fun k => k = bo ∨ w0.heap.size ≤ k) w0 wx → ListsIn wx BC (vca, cols.length, vcc) cols))
    (HPH : Hid (Ph3J w0 w0.heap.size bo (fun _ => 0) [] [] vr vk (.slice none 0 0) (.slice none 0 0)))
    {Q0 : Exit → Act → World → Prop} (hpn : ∀ c (a : Act) d v w, Q0 (.panic c) (a.put d v) w → Q0 (.panic c) a w) {c0 c3 c8 c9 c10 c11 c12 c13 c14 c15 c16 c17 c18 c19 c20 c21 c22 c23 c24 c25 c26 c27 c28 c29 c30 c31 c32 c33 c34 c35 c36 c37 c38 c39 c40 c41 c42 c43 c44 c45 c46 c47 c48 c49 c50 c51 c52 c53 c54 c55 c56 c57 c58 c59 c60 c61 c62 c63 c64 c65 c66 c67 c68 c69 c70 c71 c72 c73 c74 c75 c76 c77 c78 c79 c80 c81 c82 c83 c84 c85 c86 c87 c88 c89 c90 c91 c92 c93 c94 c95 c96 c97 c98 c99 c100 c101 c102 c103 c104 c105 c106 c107 c108 c109 c110 c111 c112 c113 c114 c115 c116 c117 c118 c119 c120 c121 c122 c123 c124 c125 c126 c127 c128 c129 c130 c131 c132 c133 c134 c135 c136 c137 c138 c139 c140 c141 c142 c143 c147 c148 c149 c150 c151 c152 c153 c154 c155 c156 c157 c158 c159 c160 c161 c162 c163 c164 c165 c166 c167 c168 c169 c170 c171 c172 c173 c174 c175 c176 c177 c178 c179 c180 c181 c182 c183 c184 c185 c186 c187 c188 c189 c190 c191 c192 c193 c194 c195 c196 c197 c198 c199 : Value}
    (HEX : Hid (∀ (τ : Nat → Nat) (vn ve : Value) (w' : World), Ph3J w' w0.heap.size bo τ (rowsI cols o.length) (endsI t.e o) vr vk vn ve → Chg (fun k => k = bo ∨ w0.heap.size ≤ k) w0 w' → ∀ u16 u17 u18 u19 u147 u148 u149 u150 u151 u152 u153 u154 u155 u156 u157 u158 u159 u160 u161 u162 u163 u164 u165 u166 u167 u168 u169 u170 u171 u172 u173 u174 u175 u176 u177 u178 u179 u180 u181 u182 u183 u184 u185 u186 : Value, Q0 (.exit 4) ⟨List.toArray (c0 :: (.pointer (some ⟨bt, 0, none⟩)) :: (.pointer (some ⟨bo, 0, none⟩)) :: c3 :: (.slice (some ⟨gF, 0, none⟩) t.n.length t.n.length) :: (.slice va o.length vc) :: (.map (some gm)) :: (.slice vca cols.length vcc) :: c8 :: c9 :: c10 :: c11 :: c12 :: c13 :: c14 :: c15 :: u16 :: u17 :: u18 :: u19 :: c20 :: c21 :: c22 :: c23 :: c24 :: c25 :: c26 :: c27 :: c28 :: c29 :: c30 :: c31 :: c32 :: c33 :: c34 :: c35 :: c36 :: c37 :: c38 :: c39 :: c40 :: c41 :: c42 :: c43 :: c44 :: c45 :: c46 :: c47 :: c48 :: c49 :: c50 :: c51 :: c52 :: c53 :: c54 :: c55 :: c56 :: c57 :: c58 :: c59 :: c60 :: c61 :: c62 :: c63 :: c64 :: c65 :: c66 :: c67 :: c68 :: c69 :: c70 :: c71 :: c72 :: c73 :: c74 :: c75 :: c76 :: c77 :: c78 :: c79 :: c80 :: c81 :: c82 :: c83 :: c84 :: c85 :: c86 :: c87 :: c88 :: c89 :: c90 :: c91 :: c92 :: c93 :: c94 :: c95 :: c96 :: c97 :: c98 :: c99 :: c100 :: c101 :: c102 :: c103 :: c104 :: c105 :: c106 :: c107 :: c108 :: c109 :: c110 :: c111 :: c112 :: c113 :: c114 :: c115 :: c116 :: c117 :: c118 :: c119 :: c120 :: c121 :: c122 :: c123 :: c124 :: c125 :: c126 :: c127 :: c128 :: c129 :: c130 :: c131 :: c132 :: c133 :: c134 :: c135 :: c136 :: c137 :: c138 :: c139 :: c140 :: c141 :: c142 :: c143 :: (.slice va o.length vc) :: (.int .i64 o.length) :: (.int .i64 o.length) :: u147 :: u148 :: u149 :: u150 :: u151 :: u152 :: u153 :: u154 :: u155 :: u156 :: u157 :: u158 :: u159 :: u160 :: u161 :: u162 :: u163 :: u164 :: u165 :: u166 :: u167 :: u168 :: u169 :: u170 :: u171 :: u172 :: u173 :: u174 :: u175 :: u176 :: u177 :: u178 :: u179 :: u180 :: u181 :: u182 :: u183 :: u184 :: u185 :: u186 :: c187 :: c188 :: c189 :: c190 :: c191 :: c192 :: c193 :: c194 :: c195 :: c196 :: c197 :: c198 :: c199 :: []), []⟩ w')) :
    Code.wp Try.prog (Code.loop LstEBody) Q0 ⟨List.toArray (c0 :: (.pointer (some ⟨bt, 0, none⟩)) :: (.pointer (some ⟨bo, 0, none⟩)) :: c3 :: (.slice (some ⟨gF, 0, none⟩) t.n.length t.n.length) :: (.slice va o.length vc) :: (.map (some gm)) :: (.slice vca cols.length vcc) :: c8 :: c9 :: c10 :: c11 :: c12 :: c13 :: c14 :: c15 :: c16 :: c17 :: c18 :: c19 :: c20 :: c21 :: c22 :: c23 :: c24 :: c25 :: c26 :: c27 :: c28 :: c29 :: c30 :: c31 :: c32 :: c33 :: c34 :: c35 :: c36 :: c37 :: c38 :: c39 :: c40 :: c41 :: c42 :: c43 :: c44 :: c45 :: c46 :: c47 :: c48 :: c49 :: c50 :: c51 :: c52 :: c53 :: c54 :: c55 :: c56 :: c57 :: c58 :: c59 :: c60 :: c61 :: c62 :: c63 :: c64 :: c65 :: c66 :: c67 :: c68 :: c69 :: c70 :: c71 :: c72 :: c73 :: c74 :: c75 :: c76 :: c77 :: c78 :: c79 :: c80 :: c81 :: c82 :: c83 :: c84 :: c85 :: c86 :: c87 :: c88 :: c89 :: c90 :: c91 :: c92 :: c93 :: c94 :: c95 :: c96 :: c97 :: c98 :: c99 :: c100 :: c101 :: c102 :: c103 :: c104 :: c105 :: c106 :: c107 :: c108 :: c109 :: c110 :: c111 :: c112 :: c113 :: c114 :: c115 :: c116 :: c117 :: c118 :: c119 :: c120 :: c121 :: c122 :: c123 :: c124 :: c125 :: c126 :: c127 :: c128 :: c129 :: c130 :: c131 :: c132 :: c133 :: c134 :: c135 :: c136 :: c137 :: c138 :: c139 :: c140 :: c141 :: c142 :: c143 :: (.slice va o.length vc) :: (.int .i64 o.length) :: (.int .i64 0) :: c147 :: c148 :: c149 :: c150 :: c151 :: c152 :: c153 :: c154 :: c155 :: c156 :: c157 :: c158 :: c159 :: c160 :: c161 :: c162 :: c163 :: c164 :: c165 :: c166 :: c167 :: c168 :: c169 :: c170 :: c171 :: c172 :: c173 :: c174 :: c175 :: c176 :: c177 :: c178 :: c179 :: c180 :: c181 :: c182 :: c183 :: c184 :: c185 :: c186 :: c187 :: c188 :: c189 :: c190 :: c191 :: c192 :: c193 :: c194 :: c195 :: c196 :: c197 :: c198 :: c199 :: []), []⟩ w0 := by
  conv => arg 2; arg 1; whnf
  have fn := HF.out.n
  have fe := HF.out.e
  have hol := HO.out.len_le
  have HEL := Lib.hid HM.out.el
  go_loopw [146] (fun q wr => ∃ (i : Nat) (τ : Nat → Nat) (vn ve : Value), i ≤ o.length ∧ q = .int .i64 i ∧ Ph3J wr w0.heap.size bo τ ((rowsI cols o.length).take i) ((endsI t.e o).take i) vr vk vn ve ∧ Chg (fun k => k = bo ∨ w0.heap.size ≤ k) w0 wr) (fun q _ => o.length - (intOf q).toNat)
  case atStart => exact ⟨0, _, _, _, by omega, rfl, HPH.out, Chg.refl _ _⟩
  case round =>
    clear HPH
    obtain ⟨i, τ, vn, ve, hi, rfl, hph, hc⟩ := hrel
    have HPH := Lib.hid hph
    have HC := Lib.hid hc
    have hnl : ((rowsI cols o.length).take i).length = i := by rw [List.length_take]; unfold rowsI; simp; omega
    have hel : ((endsI t.e o).take i).length = i := by rw [List.length_take]; unfold endsI; simp; omega
    have HNL := Lib.hid (show _ ∧ _ from ⟨hnl, hel⟩)
    clear hph hc hnl hel
    by_cases hil : i < o.length
    · have b1 : decide ((i : Int) < (o.length : Int)) = true := by simp; omega
      have b2 : i < o.length := hil
      obtain ⟨s, hs⟩ : ∃ s, o[i]? = some s := ⟨_, List.getElem?_eq_getElem hil⟩
      have hsl := HO.out.lt s (List.mem_of_getElem? hs)
      have HS := Lib.hid hs
      have hL := HSRC.out wr HC.out
      obtain ⟨go, oo, hoa, c1⟩ : ∃ go oo, va = some ⟨go, oo, none⟩ ∧ wr.cell? ⟨go, oo + i, none⟩ = some (.int .i64 (s : Int)) := by
        obtain ⟨x, g, o', hx, ha, hcell, -⟩ := hL.q.getI (k := i) (by rw [natsI_len]; exact hil)
        rw [natsI_get hs] at hx
        obtain rfl := Option.some.inj hx
        exact ⟨g, o', ha, hcell⟩
      subst hoa
      clear hs hL
      obtain ⟨wo, rfl⟩ : ∃ wo : World, wo = wr := ⟨_, rfl⟩
      go_upto_region 32 with (at_make; refine intE.wpList_make rfl _ _ _ rfl rfl _ _ _ _ cols.length cols.length rfl rfl rfl (by omega) (by omega) (by omega) ?_; intro w2 HR2 HC2)
      have HN2 : Hid (NumAt w2 wo.heap.size cols.length (fun _ => 0)) := Lib.hid (num_made HR2.out)
      have HCW2 := Lib.hid (HC.out.trans HC2.out.any)
      have HB0 : Hid (w0.heap.size ≤ wo.heap.size) := Lib.hid HC.out.size
      obtain ⟨gR, hgR⟩ : ∃ X, wo.heap.size = X := ⟨_, rfl⟩
      have HGR := Lib.hid hgR
      rw [hgR] at HN2 ⊢
      clear c1 hgR HR2
      go_wp2
      go_loopw [156] (fun q wx => ∃ (c : Nat) (f : Nat → Int), c ≤ cols.length ∧ q = .int .i64 c ∧ NumAt wx gR cols.length f ∧ (∀ j, j < c → f j = (rowI cols i).getD j 0) ∧ Chg (fun x => x = gR) w2 wx) (fun q _ => cols.length - (intOf q).toNat)
      case atStart => exact ⟨0, _, by omega, rfl, HN2.out, fun j h => absurd h (Nat.not_lt_zero _), Chg.refl _ _⟩
      case round =>
        clear HN2
        obtain ⟨c, f, hc, rfl, hn, hf, hcx⟩ := hrel
        have HN := Lib.hid hn
        have HFJ := Lib.hid hf
        have HCX := Lib.hid hcx
        have HCW : Hid (Chg (fun k => k = bo ∨ w0.heap.size ≤ k) w0 wr) := Lib.hid (HCW2.out.trans (hcx.mono (fun k _ e => .inr (by have := HB0.out; have := HGR.out; omega))))
        clear hn hf hcx
        by_cases hcc : c < cols.length
        · have b3 : decide ((c : Int) < (cols.length : Int)) = true := by simp; omega
          have b4 : c < cols.length := hcc
          obtain ⟨l, gl, ol, la, lc, hl, hla, n0, hin, -, -⟩ := (HLI.out wr HCW.out).getIn hcc
          have hll := HCOL.out l (List.mem_of_getElem? hl)
          obtain ⟨x, gx, ox, hx, hxa, c0, x0, x1, -, -⟩ := hin.getI (k := i) (by omega)
          subst hla hxa
          have b5 : i < l.length := by omega
          have HRG := Lib.hid (rowI_get hl hx)
          have HS1 := Lib.hid (HN.out.set (j := c) (v := x) hcc ⟨x0, x1⟩)
          have HCS := Lib.hid (HCX.out.trans (setCellChg wr gR c (.int .i64 x)))
          obtain ⟨d0, z0, -⟩ := HN.out.get hcc
          have HF2 : Hid (∀ j, j < c + 1 → (if j = c then x else f j) = (rowI cols i).getD j 0) := Lib.hid (fun j hj => by
            by_cases e : j = c
            · subst e; rw [if_pos rfl]; exact HRG.out.symm
            · rw [if_neg e]; exact HFJ.out j (by omega))
          clear hl hx hin hll
          go_wp2
          go_roundw
          case rel => exact ⟨c + 1, _, by omega, by go_num, HS1.out, HF2.out, HCS.out⟩
          case measure => simp [intOf]; omega
        · obtain rfl : c = cols.length := by omega
          have b3 : decide ((cols.length : Int) < (cols.length : Int)) = false := by simp
          have hrl : (rowI cols i).length = cols.length := by unfold rowI; simp
          have HRL := Lib.hid hrl
          have HROW : Hid (intE.Row wr gR (rowI cols i)) := Lib.hid (num_row (hrl ▸ HN.out) (hrl ▸ HFJ.out))
          clear hrl HN HFJ
          have HWO : Hid (Chg (fun _ => False) wo wr) := Lib.hid (((HC2.out.any (S := fun k => wo.heap.size ≤ k)).trans (HCX.out.mono (fun k _ e => by have := HGR.out; omega))).fresh)
          go_upto_region 37 with (fail)
          obtain ⟨wd, hwd⟩ : ∃ W, wr.drew = W := ⟨_, rfl⟩
          have HDD : Hid (Chg (fun _ => False) wr wd) := Lib.hid (by rw [← hwd]; exact (Chg.refl _ _).drew)
          have hpm := (HPH.out.mark (τ' := fun g => if wo.heap.size ≤ g then 10 + i else τ g) (fun g _ hg => by rw [if_neg (by omega)])).same (HWO.out.trans HDD.out)
          obtain ⟨vna, vnc, rfl, hvnc⟩ := hpm.n.shape
          obtain ⟨vea, vec, rfl, hvec⟩ := hpm.e.shape
          rw [HNL.out.1] at hpm
          rw [HNL.out.2] at hpm
          obtain ⟨X, hX1, hX2, hX3⟩ := hpm.n.x
          have HPM := Lib.hid hpm
          have HX := Lib.hid (show _ ∧ _ ∧ _ from ⟨hX1, hX2, hX3⟩)
          have HBD : Hid (w0.heap.size ≤ wd.heap.size) := Lib.hid (by have := HCW.out.size; have := HDD.out.size; omega)
          have HCD := Lib.hid (HCW.out.trans HDD.out.any)
          have HROWD : Hid (TOwn intE wd w0.heap.size (fun g => if wo.heap.size ≤ g then 10 + i else τ g) (10 + ((rowsI cols o.length).take i).length) (slV (some ⟨gR, 0, none⟩, cols.length, cols.length)) (rowI cols i)) := Lib.hid ⟨.inr ⟨gR, rowI cols i, by rw [HRL.out]; rfl, by have := HB0.out; have := HGR.out; omega, HROW.out.chg HDD.out (fun h => h), List.prefix_refl _, by rw [HRL.out]; unfold maxLen; omega⟩, fun g hg => by
            have e : gR = g := by simpa [Value.ownBlock, slV] using hg
            have := HGR.out
            show (if wo.heap.size ≤ g then 10 + i else τ g) = _
            rw [if_pos (by omega), HNL.out.1]⟩
          have HSO : Hid (∀ x, Chg (fun k => (Value.slice vna i vnc).ownBlock = some k ∨ (Value.slice vea i vec).ownBlock = some k) wd x → Chg (fun k => k = bo ∨ w0.heap.size ≤ k) w0 x) := Lib.hid (fun x hx => HCD.out.trans (hx.mono (fun k _ e => .inr (by
            rcases e with e | e
            · exact (HX.out.1.own.blk e).1
            · exact (HPM.out.e.own.blk e).1))))
          have HNB : Hid (¬ ((Value.slice vna i vnc).ownBlock = some bo ∨ (Value.slice vea i vec).ownBlock = some bo)) := Lib.hid (by
            have hb := HPM.out.hb
            rintro (e | e)
            · have := (HX.out.1.own.blk e).1; omega
            · have := (HPM.out.e.own.blk e).1; omega)
          have hL := HSRC.out wd HCD.out
          obtain ⟨ey, ge, oe, hex, hea, ec0, ex0, ex1, -, -⟩ := hL.e.getI (k := s) (by have := HEL.out; omega)
          subst hea
          have hse : s < t.e.length := by have := HEL.out; omega
          have HEA : Hid (∀ x, Chg (fun k => (Value.slice vna i vnc).ownBlock = some k ∨ (Value.slice vea i vec).ownBlock = some k) wd x → x.cell? ⟨bt, 3, none⟩ = some (.slice (some ⟨ge, oe, none⟩) t.e.length ec) ∧ x.cell? ⟨ge, oe + s, none⟩ = some (.int .i64 ey)) := Lib.hid (fun x hx => by
            have hL := HSRC.out x (HSO.out x hx)
            refine ⟨hL.b.2.2.2, ?_⟩
            obtain ⟨ey', ge', oe', hex', hea', ec0', -⟩ := hL.e.getI (k := s) hse
            rw [hex] at hex'
            obtain rfl := Option.some.inj hex'
            injection hea' with hea'
            injection hea' with e1 e2
            subst e1 e2
            exact ec0')
          have HTE : Hid ((endsI t.e o).take (i + 1) = (endsI t.e o).take i ++ [ey]) := Lib.hid (endsI_take HS.out hex)
          have HEY : Hid (I.Byte ey) := Lib.hid ⟨ex0, ex1⟩
          refine wp_region_late (fun x => Chg (fun k => (Value.slice vna i vnc).ownBlock = some k ∨ (Value.slice vea i vec).ownBlock = some k) wd x) (fun i => decide (15 ≤ i)) (by kernel_rfl) ?_
          show wpAnyL _ _ _ _ _ _ 18 (Array.replicate 18 false) _ wr.drew
          rw [hwd]
          clear hwd hpm hX1 hX2 hX3 hL hex ec0 HPH HWO HROW HCX
          have HSS : Hid (Chg (fun k => (Value.slice vna i vnc).ownBlock = some k ∨ (Value.slice vea i vec).ownBlock = some k) wd wd) := Lib.hid (Chg.refl _ _)
          (refine late_read (i := 0) rfl (by kernel_rfl) (fun v c a w h => hpn c a _ v w h) rfl HSS.out (fun K hK => ?_); apply Exists.intro; refine ⟨fun w' hC => ?_, ?_⟩; ((skip); go_simp; try with_reducible rfl); (try go_simp); refine hK _ ?_; clear hK K)
          (refine late_read (i := 1) rfl (by kernel_rfl) (fun v c a w h => hpn c a _ v w h) rfl HSS.out (fun K hK => ?_); apply Exists.intro; refine ⟨fun w' hC => ?_, ?_⟩; ((have o2 := hC.cellS HPM.out.c2 HNB.out); go_simp; try with_reducible rfl); (try go_simp); refine hK _ ?_; clear hK K)
          (refine late_read (i := 2) rfl (by kernel_rfl) (fun v c a w h => hpn c a _ v w h) rfl HSS.out (fun K hK => ?_); apply Exists.intro; refine ⟨fun w' hC => ?_, ?_⟩; ((skip); go_simp; try with_reducible rfl); (try go_simp); refine hK _ ?_; clear hK K)
          (refine late_read (i := 5) rfl (by kernel_rfl) (fun v c a w h => hpn c a _ v w h) rfl HSS.out (fun K hK => ?_); apply Exists.intro; refine ⟨fun w' hC => ?_, ?_⟩; ((skip); go_simp; try with_reducible rfl); (try go_simp); refine hK _ ?_; clear hK K)
          (refine late_read (i := 6) rfl (by kernel_rfl) (fun v c a w h => hpn c a _ v w h) rfl HSS.out (fun K hK => ?_); apply Exists.intro; refine ⟨fun w' hC => ?_, ?_⟩; ((have o3 := hC.cellS HPM.out.c3 HNB.out); go_simp; try with_reducible rfl); (try go_simp); refine hK _ ?_; clear hK K)
          (refine late_read (i := 7) rfl (by kernel_rfl) (fun v c a w h => hpn c a _ v w h) rfl HSS.out (fun K hK => ?_); apply Exists.intro; refine ⟨fun w' hC => ?_, ?_⟩; ((skip); go_simp; try with_reducible rfl); (try go_simp); refine hK _ ?_; clear hK K)
          (refine late_read (i := 8) rfl (by kernel_rfl) (fun v c a w h => hpn c a _ v w h) rfl HSS.out (fun K hK => ?_); apply Exists.intro; refine ⟨fun w' hC => ?_, ?_⟩; ((have e3 := (HEA.out w' hC).1); go_simp; try with_reducible rfl); (try go_simp); refine hK _ ?_; clear hK K)
          (refine late_read (i := 9) rfl (by kernel_rfl) (fun v c a w h => hpn c a _ v w h) rfl HSS.out (fun K hK => ?_); apply Exists.intro; refine ⟨fun w' hC => ?_, ?_⟩; ((skip); go_simp; try with_reducible rfl); (try go_simp); refine hK _ ?_; clear hK K)
          (refine late_read (i := 10) rfl (by kernel_rfl) (fun v c a w h => hpn c a _ v w h) rfl HSS.out (fun K hK => ?_); apply Exists.intro; refine ⟨fun w' hC => ?_, ?_⟩; ((skip); go_simp; try with_reducible rfl); (try go_simp); refine hK _ ?_; clear hK K)
          (refine late_read (i := 11) rfl (by kernel_rfl) (fun v c a w h => hpn c a _ v w h) rfl HSS.out (fun K hK => ?_); apply Exists.intro; refine ⟨fun w' hC => ?_, ?_⟩; ((have e4 := (HEA.out w' hC).2); go_simp; try with_reducible rfl); (try go_simp); refine hK _ ?_; clear hK K)
          refine late_two_own listE intE 3 4 14 12 13 (by kernel_rfl) rfl rfl rfl rfl rfl rfl rfl rfl rfl rfl (by kernel_rfl) (by kernel_rfl) (fun v c a w h => hpn c a _ v w h) 173 182 (.tmp 171) (.tmp 176) rfl rfl rfl rfl (fun e => by injection e with e; cases e) (fun e => by injection e with e; cases e) (of_decide_eq_true (by kernel_rfl)) (of_decide_eq_true (by kernel_rfl)) (.slice vna i vnc) (.slice vea i vec) rfl rfl (some ⟨gR, 0, none⟩, cols.length, cols.length) ey trivial HEY.out 23 3 X ((endsI t.e o).take i) (fun g => if wo.heap.size ≤ g then 10 + i else τ g) 0 2 w0.heap.size (by decide) HBD.out HX.out.1 HPM.out.e (by rw [HX.out.2.1, HNL.out.1]; omega) (by rw [HNL.out.2]; omega) (fun w' => by go_simp; rfl) (fun w' => by go_simp; rfl) (.pointer (some ⟨bo, 2, none⟩)) (fun w' => by go_simp) (fun w' h => h) ?_
          intro v1 v2 v u w9 h2 K hK
          obtain ⟨⟨k1, k2⟩, ⟨k3, k4⟩, hph9, hc9⟩ := HPM.out.two HX.out.1 HX.out.2.1 HX.out.2.2 HROWD.out h2
          obtain ⟨v1a, v1n, v1c, rfl⟩ := h2.a.shape3
          obtain ⟨u1a, u1n, u1c, rfl⟩ := h2.b.shape3
          have HF := Lib.hid (hph9.ne (rowsI_take hil) HTE.out)
          have HCF := Lib.hid (HCD.out.trans hc9)
          clear h2 hph9 hc9
          (try go_simp)
          refine hK _ ?_
          clear hK K
          (refine late_store (i := 15) (by kernel_rfl) rfl rfl (fun K hK => ?_); apply Exists.intro; refine ⟨?_, (fun h => absurd h (by decide)), ?_⟩; ((skip); go_simp; try first | with_reducible rfl | exact ⟨rfl, rfl⟩); (try go_simp); refine hK _ _ ?_; clear hK K)
          (refine late_turn (i := 16) (by kernel_rfl) rfl rfl (fun K hK => ?_); apply Exists.intro; apply Exists.intro; refine ⟨?_, ?_, ?_⟩; ((skip); go_simp; try first | with_reducible rfl | exact ⟨rfl, rfl⟩); (exact fun h => absurd h (by decide)); (try go_simp); refine hK _ _ ?_; clear hK K)
          (refine late_store (i := 17) (by kernel_rfl) rfl rfl (fun K hK => ?_); apply Exists.intro; refine ⟨?_, (fun h => absurd h (by decide)), ?_⟩; ((skip); go_simp; try first | with_reducible rfl | exact ⟨rfl, rfl⟩); (try go_simp); refine hK _ _ ?_; clear hK K)
          refine late_done (by kernel_rfl) ?_ _
          clear k1 k2 k3 k4
          go_wp2
          go_roundw
          case rel => exact ⟨i + 1, _, _, _, by omega, by go_num, HF.out, HCF.out⟩
          case measure => simp [intOf]; omega
    · obtain rfl : i = o.length := by omega
      have b1 : decide ((o.length : Int) < (o.length : Int)) = false := by simp
      have HFIN := Lib.hid (HPH.out.ne (N' := rowsI cols o.length) (E' := endsI t.e o) (by rw [List.take_of_length_le (by unfold rowsI; simp)]) (by rw [List.take_of_length_le (by unfold endsI; simp)]))
      go_wp2_with fail
      exact HEX.out τ vn ve wr HFIN.out HC.out _ _ _ _ _ _ _ _ _ _ _ _ _ _ _ _ _ _ _ _ _ _ _ _ _ _ _ _ _ _ _ _ _ _ _ _ _ _ _ _ _ _ _ _
end Go.Proofs.Ytodohgckncnipaa
/- The program's Least: the walk. -/
namespace Go.Proofs.Ytodohgckncnipaa
open Go.RowKit Go.Maps

/-- A table whose lists are its own, each in a block of its own. -/
structure OwnT (w : World) (B : Nat) (τ : Nat → Nat) (rs cs ns es : Sl) (t : TabD) : Prop where
  r : TOwn rngE w B τ 3 (slV rs) t.r
  c : TOwn intE w B τ 4 (slV cs) t.c
  n : LTJ w B τ 0 10 (slV ns) t.n
  e : TOwn intE w B τ 2 (slV es) t.e
  k : rs.2.2 = t.r.length ∧ cs.2.2 = t.c.length ∧ ns.2.2 = t.n.length ∧ es.2.2 = t.e.length
theorem TOwn.clip {α : Type} {E : Elt α} {w : World} {B : Nat} {τ : Nat → Nat} {k : Nat} {v : Value} {X : List α} (h : TOwn E w B τ k v X) : ∃ a c, v = .slice a X.length c ∧ X.length ≤ c ∧ TOwn E w B τ k (.slice a X.length X.length) X := by
  obtain ⟨a, c, h1, h2, h3⟩ := h.own.clip
  refine ⟨a, c, h1, h2, h3, fun g hg => h.tag g ?_⟩
  rw [h1]
  cases a with
  | none => cases hg
  | some ad => exact hg
theorem LTJ.clip {w : World} {B : Nat} {τ : Nat → Nat} {k r : Nat} {v : Value} {LL : List (List Int)} (h : LTJ w B τ k r v LL) : ∃ a c, v = .slice a LL.length c ∧ LL.length ≤ c ∧ LTJ w B τ k r (.slice a LL.length LL.length) LL := by
  obtain ⟨X, h1, h2, h3⟩ := h.x
  obtain ⟨a, c, e1, e2, e3⟩ := h1.clip
  rw [h2] at e1 e2 e3
  exact ⟨a, c, e1, e2, X, e3, h2, h3⟩
theorem TOwn.lower {α : Type} {E : Elt α} {w : World} {B B' : Nat} {τ : Nat → Nat} {k : Nat} {v : Value} {X : List α} (h : TOwn E w B τ k v X) (hB : B' ≤ B) : TOwn E w B' τ k v X := ⟨h.own.lower hB, h.tag⟩
theorem LTJ.lower {w : World} {B B' : Nat} {τ : Nat → Nat} {k r : Nat} {v : Value} {LL : List (List Int)} (h : LTJ w B τ k r v LL) (hB : B' ≤ B) : LTJ w B' τ k r v LL := by
  obtain ⟨X, h1, h2, h3⟩ := h.x
  exact ⟨X, h1.lower hB, h2, fun j y l hy hl => (h3 j y l hy hl).lower hB⟩
theorem TOwn.far {α : Type} {E : Elt α} {S : Nat → Prop} {w w' : World} {B : Nat} {τ : Nat → Nat} {k : Nat} {v : Value} {X : List α} (h : TOwn E w B τ k v X) (hc : Chg S w w') (hs : ∀ g, B ≤ g → g < w.heap.size → ¬ S g) : TOwn E w' B τ k v X := ⟨h.own.chg hc hs, h.tag⟩
/-- What Least answers. -/
def LeastOwn (t : TabD) (w : World) (e : Ending) (w' : World) : Prop :=
  if mayT t = true then ∃ (rs cs ns es : Sl) (τ : Nat → Nat), e = .returned (.tuple #[tabV rs cs ns es, .int .i64 0]) ∧ OwnT w' w.heap.size τ rs cs ns es (leastT t) ∧ Chg (fun _ => False) w w'
  else e = .returned (.tuple #[tabV (none, 0, 0) (none, 0, 0) (none, 0, 0) (none, 0, 0), .int .i64 1]) ∧ Chg (fun _ => False) w w'

set_option maxRecDepth 100000 in
set_option maxHeartbeats 16000000 in
theorem least_any (t : TabD) (rs cs ns es : Sl) (B : Nat) (w : World) (h : TabIn w B rs cs ns es t) (hf : Fair t) :
    Calls Try.prog 10 #[tabV rs cs ns es] w (LeastOwn t w) := by
  have HTB := Lib.hid h
  have HF := Lib.hid hf
  obtain ⟨ra, rn, rc⟩ := rs
  obtain ⟨ca, cn, cc⟩ := cs
  obtain ⟨na, nn, nc⟩ := ns
  obtain ⟨ea, en, ec⟩ := es
  obtain ⟨rfl, hr1⟩ := h.r.len
  obtain ⟨rfl, hc1⟩ := h.c.len
  obtain ⟨rfl, hn1⟩ := h.n.len
  obtain ⟨rfl, he1⟩ := h.e.len
  have fr := hf.r
  have fc := hf.c
  have fn := hf.n
  have fe := hf.e
  clear h hf
  obtain ⟨wt, hwt⟩ : ∃ x, x = w.alloc (.cells #[.slice ra t.r.length rc, .slice ca t.c.length cc, .slice na t.n.length nc, .slice ea t.e.length ec] 26) := ⟨_, rfl⟩
  obtain ⟨wa, hwa⟩ : ∃ x, x = wt.alloc (.cells #[.slice none 0 0, .slice none 0 0, .slice none 0 0, .slice none 0 0] 26) := ⟨_, rfl⟩
  have hct : Chg (fun _ => False) w wt := by rw [hwt]; exact (Chg.refl _ _).alloc _
  have hca : Chg (fun _ => False) wt wa := by rw [hwa]; exact (Chg.refl _ _).alloc _
  have hst : wt.heap.size = w.heap.size + 1 := by rw [hwt]; simp
  have HSA : Hid (wa.heap.size = w.heap.size + 2) := Lib.hid (by rw [hwa]; simp [hst])
  have HC0 := Lib.hid (hct.trans hca)
  have HBX : Hid (BoxT wa w.heap.size (ra, t.r.length, rc) (ca, t.c.length, cc) (na, t.n.length, nc) (ea, t.e.length, ec) ∧ ∀ j, wa.frozen? ⟨w.heap.size, j, none⟩ = false) := Lib.hid (by
    have h1 : BoxT wt w.heap.size (ra, t.r.length, rc) (ca, t.c.length, cc) (na, t.n.length, nc) (ea, t.e.length, ec) := by rw [hwt]; exact tabBox w (ra, t.r.length, rc) (ca, t.c.length, cc) (na, t.n.length, nc) (ea, t.e.length, ec) 26
    exact ⟨h1.chg hca (fun h => h), fun j => (hca.frozen (p := ⟨w.heap.size, j, none⟩) (by show w.heap.size < _; omega) (fun h => h)).trans (by rw [hwt]; exact World.frozen?_alloc_new _ _ _ _)⟩)
  have HBO : Hid (BoxT wa wt.heap.size (none, 0, 0) (none, 0, 0) (none, 0, 0) (none, 0, 0) ∧ ∀ j, wa.frozen? ⟨wt.heap.size, j, none⟩ = false) := Lib.hid ⟨by rw [hwa]; exact tabBox wt (none, 0, 0) (none, 0, 0) (none, 0, 0) (none, 0, 0) 26, fun j => by rw [hwa]; exact World.frozen?_alloc_new _ _ _ _⟩
  have HWA := Lib.hid (show _ ∧ _ from ⟨hwt, hwa⟩)
  have HSTW := Lib.hid hst
  clear hwt hwa hct hca hst
  have q0 : wa.cell? ⟨w.heap.size, 0, none⟩ = some (.slice ra t.r.length rc) := HBX.out.1.1
  have q1 : wa.cell? ⟨w.heap.size, 1, none⟩ = some (.slice ca t.c.length cc) := HBX.out.1.2.1
  have q2 : wa.cell? ⟨w.heap.size, 2, none⟩ = some (.slice na t.n.length nc) := HBX.out.1.2.2.1
  have q3 : wa.cell? ⟨w.heap.size, 3, none⟩ = some (.slice ea t.e.length ec) := HBX.out.1.2.2.2
  show Calls Try.prog 10 #[.agg #[.slice ra t.r.length rc, .slice ca t.c.length cc, .slice na t.n.length nc, .slice ea t.e.length ec]] w _
  cases hmay : mayT t with
  | false =>
    have HMY := Lib.hid hmay
    clear hmay
    go_enter Try.func10, Try.ntmps10
    go_upto_region 1 with (fail)
    rw [← HWA.out.1, ← HWA.out.2]
    go_wp2_with fail
    refine (may_any t (ra, t.r.length, rc) (ca, t.c.length, cc) (na, t.n.length, nc) (ea, t.e.length, ec) B _ (HTB.out.same HC0.out) HF.out).mono ?_
    rintro e w1 ⟨rfl, hc⟩
    rw [HMY.out]
    have HC1 := Lib.hid hc
    have hbo := HSTW.out
    have hb1 := HBO.out
    rw [hbo] at hb1
    have p0 : w1.cell? ⟨w.heap.size + 1, 0, none⟩ = some (.slice none 0 0) := hc.cellS hb1.1.1 (fun h => h)
    have p1 : w1.cell? ⟨w.heap.size + 1, 1, none⟩ = some (.slice none 0 0) := hc.cellS hb1.1.2.1 (fun h => h)
    have p2 : w1.cell? ⟨w.heap.size + 1, 2, none⟩ = some (.slice none 0 0) := hc.cellS hb1.1.2.2.1 (fun h => h)
    have p3 : w1.cell? ⟨w.heap.size + 1, 3, none⟩ = some (.slice none 0 0) := hc.cellS hb1.1.2.2.2 (fun h => h)
    have hz : ∀ j, w1.frozen? ⟨w.heap.size + 1, j, none⟩ = false := fun j => (hc.frozen (p := ⟨w.heap.size + 1, j, none⟩) (by have := HSA.out; show w.heap.size + 1 < _; omega) (fun h => h)).trans (hb1.2 j)
    have z0 := hz 0
    have z1 := hz 1
    have z2 := hz 2
    have z3 := hz 3
    obtain ⟨s0, s1, s2, s3, hsc, -⟩ := store4 (.slice none 0 0) (.slice none 0 0) (.slice none 0 0) (.slice none 0 0) p0 p1 p2 p3
    have HS := Lib.hid (show _ ∧ _ ∧ _ ∧ _ from ⟨s0, s1, s2, s3⟩)
    have HCE : Hid (Chg (fun _ => False) w ((((w1.setCell ⟨w.heap.size + 1, 0, none⟩ (.slice none 0 0)).setCell ⟨w.heap.size + 1, 1, none⟩ (.slice none 0 0)).setCell ⟨w.heap.size + 1, 2, none⟩ (.slice none 0 0)).setCell ⟨w.heap.size + 1, 3, none⟩ (.slice none 0 0))) := Lib.hid (((HC0.out.trans HC1.out).any (S := fun k => w.heap.size ≤ k)).trans (hsc.mono (fun k _ e => by omega))).fresh
    clear hsc s0 s1 s2 s3 hz hbo hb1 q0 q1 q2 q3 hc
    go_wp2
    obtain ⟨s0, s1, s2, s3⟩ := HS.out
    exact bodyPost_ret (v := .tuple #[.agg #[.slice none 0 0, .slice none 0 0, .slice none 0 0, .slice none 0 0], .int .i64 1]) (by simp [results, Try.results10, go_sem, s0, s1, s2, s3]) rfl (by unfold LeastOwn; rw [if_neg (by rw [HMY.out]; decide)]; exact ⟨rfl, HCE.out⟩)
  | true =>
    have HMY := Lib.hid hmay
    have HM := Lib.hid (mayT_iff.1 hmay)
    clear hmay
    go_enter Try.func10, Try.ntmps10
    go_upto_region 1 with (fail)
    rw [← HWA.out.1, ← HWA.out.2]
    go_wp2_with fail
    refine (may_any t (ra, t.r.length, rc) (ca, t.c.length, cc) (na, t.n.length, nc) (ea, t.e.length, ec) B _ (HTB.out.same HC0.out) HF.out).mono ?_
    rintro e w1 ⟨rfl, hc⟩
    rw [HMY.out]
    have HC1 := Lib.hid hc
    have q0 := hc.cellS q0 (fun h => h)
    have q1 := hc.cellS q1 (fun h => h)
    have q2 := hc.cellS q2 (fun h => h)
    have q3 := hc.cellS q3 (fun h => h)
    have HBX1 : Hid (∀ j, w1.frozen? ⟨w.heap.size, j, none⟩ = false) := Lib.hid (fun j => (hc.frozen (p := ⟨w.heap.size, j, none⟩) (by have := HSA.out; show w.heap.size < _; omega) (fun h => h)).trans (HBX.out.2 j))
    clear hc
    go_wp2_with fail
    refine (bare_any t (ra, t.r.length, rc) (ca, t.c.length, cc) (na, t.n.length, nc) (ea, t.e.length, ec) B _ (HTB.out.same (HC0.out.trans HC1.out)) HM.out HF.out).mono ?_
    rintro e w2 ⟨gB, he, hgB, hlB, hc⟩
    have he : e = .returned (.agg #[.slice ra t.r.length rc, .slice ca t.c.length cc, .slice (some ⟨gB, 0, none⟩) t.n.length t.n.length, .slice ea t.e.length ec]) := he
    subst he
    have HC2 := Lib.hid (HC1.out.trans hc)
    have HLB := Lib.hid hlB
    have HGB := Lib.hid hgB
    have q0 := hc.cellS q0 (fun h => h)
    have q1 := hc.cellS q1 (fun h => h)
    have q2 := hc.cellS q2 (fun h => h)
    have q3 := hc.cellS q3 (fun h => h)
    have hzz : ∀ j, w2.frozen? ⟨w.heap.size, j, none⟩ = false := fun j => (hc.frozen (p := ⟨w.heap.size, j, none⟩) (by have := HSA.out; have := HC1.out.size; show w.heap.size < _; omega) (fun h => h)).trans (HBX1.out j)
    have z0 := hzz 0
    have z1 := hzz 1
    have z2 := hzz 2
    have z3 := hzz 3
    obtain ⟨s0, s1, s2, s3, hsc, -⟩ := store4 (.slice ra t.r.length rc) (.slice ca t.c.length cc) (.slice (some ⟨gB, 0, none⟩) t.n.length t.n.length) (.slice ea t.e.length ec) q0 q1 q2 q3
    have HS := Lib.hid (show _ ∧ _ ∧ _ ∧ _ ∧ _ from ⟨s0, s1, s2, s3, hsc⟩)
    clear hc hgB hlB hzz s0 s1 s2 s3 hsc HBX1
    go_upto_region 4 with (fail)
    obtain ⟨w3, hw3⟩ : ∃ x, (((w2.setCell ⟨w.heap.size, 0, none⟩ (.slice ra t.r.length rc)).setCell ⟨w.heap.size, 1, none⟩ (.slice ca t.c.length cc)).setCell ⟨w.heap.size, 2, none⟩ (.slice (some ⟨gB, 0, none⟩) t.n.length t.n.length)).setCell ⟨w.heap.size, 3, none⟩ (.slice ea t.e.length ec) = x := ⟨_, rfl⟩
    rw [hw3] at HS ⊢
    clear hw3 q0 q1 q2 q3 z0 z1 z2 z3
    have HA3 : Hid (Chg (fun k => k = w.heap.size) wa w3) := Lib.hid ((HC2.out.mono (fun _ _ h => absurd h (fun h => h))).trans HS.out.2.2.2.2)
    have HW3 : Hid (Chg (fun _ => False) w w3) := Lib.hid (((HC0.out.any (S := fun k => w.heap.size ≤ k)).trans (HA3.out.mono (fun k _ e => by omega))).fresh)
    have HLB3 : Hid (ListsIn w3 gB (some ⟨gB, 0, none⟩, t.n.length, t.n.length) (bareT t).n) := Lib.hid (HLB.out.chgB HS.out.2.2.2.2 (fun g hg e => by have := HGB.out; have := HC1.out.size; have := HSA.out; omega))
    have q0 : w3.cell? ⟨w.heap.size, 0, none⟩ = some (.slice ra t.r.length rc) := HS.out.1
    have q1 : w3.cell? ⟨w.heap.size, 1, none⟩ = some (.slice ca t.c.length cc) := HS.out.2.1
    have q2 : w3.cell? ⟨w.heap.size, 2, none⟩ = some (.slice (some ⟨gB, 0, none⟩) t.n.length t.n.length) := HS.out.2.2.1
    have q3 : w3.cell? ⟨w.heap.size, 3, none⟩ = some (.slice ea t.e.length ec) := HS.out.2.2.2.1
    go_wp2_with fail
    refine (groups_any t (ra, t.r.length, rc) (ca, t.c.length, cc) (na, t.n.length, nc) (ea, t.e.length, ec) B gB w3 (HTB.out.same HW3.out) (some ⟨gB, 0, none⟩, t.n.length, t.n.length) HLB3.out HM.out HF.out).mono ?_
    rintro e w4 ⟨gF, F, rfl, hgF, hnF, hG, hc⟩
    have HC4 := Lib.hid hc
    have HNF := Lib.hid hnF
    have HG : Hid (GrpT t F) := Lib.hid hG
    have HGF := Lib.hid hgF
    have q0 := hc.cellS q0 (fun h => h)
    have q1 := hc.cellS q1 (fun h => h)
    have q2 := hc.cellS q2 (fun h => h)
    have q3 := hc.cellS q3 (fun h => h)
    clear hc hnF hG hgF
    go_wp2_with fail
    refine (found_any t (ra, t.r.length, rc) (ca, t.c.length, cc) (some ⟨gB, 0, none⟩, t.n.length, t.n.length) (ea, t.e.length, ec) B gB gF F w4 ((HTB.out.same HW3.out).c.same HC4.out) (HLB3.out.same HC4.out) HNF.out HG.out HM.out HF.out).mono ?_
    rintro e w5 ⟨v, gm, rfl, hgm, hov, hmp, hc⟩
    obtain ⟨va, vc, rfl, hvc, -⟩ := hov.clip
    rw [natsI_len] at hov hvc ⊢
    have q0 := hc.cellS q0 (fun h => h)
    have HC5 := Lib.hid (HC4.out.trans hc)
    have HOV := Lib.hid hov
    have HMP := Lib.hid hmp
    have HGM := Lib.hid hgm
    have HCF5 := Lib.hid hc
    clear hc hov hmp hgm q1 q2 q3
    obtain ⟨bt, hbt⟩ : ∃ X, w.heap.size = X := ⟨_, rfl⟩
    obtain ⟨bo, hbo⟩ : ∃ X, w.heap.size + 1 = X := ⟨_, rfl⟩
    have HBT := Lib.hid hbt
    have HBO1 := Lib.hid hbo
    have HLO : Hid (bt < bo ∧ bo < gB ∧ bo < gF ∧ bo < gm ∧ bo < w4.heap.size ∧ w3.heap.size ≤ w5.heap.size ∧ bo < w3.heap.size) := Lib.hid (by
      have h1 := HSA.out
      have h2 := HC1.out.size
      have h3 := HC2.out.size
      have h4 := HC5.out.size
      have h5 := HCF5.out.size
      have h6 := HC4.out.size
      have h7 := HA3.out.size
      have h8 := HGB.out
      have h9 := HGF.out
      have h10 := HGM.out
      omega)
    have HB3 : Hid (BoxT w5 bt (ra, t.r.length, rc) (ca, t.c.length, cc) (some ⟨gB, 0, none⟩, t.n.length, t.n.length) (ea, t.e.length, ec)) := Lib.hid (by
      have h := HS.out
      rw [hbt] at h
      exact BoxT.chg (show BoxT w3 bt (ra, t.r.length, rc) (ca, t.c.length, cc) (some ⟨gB, 0, none⟩, t.n.length, t.n.length) (ea, t.e.length, ec) from ⟨h.1, h.2.1, h.2.2.1, h.2.2.2.1⟩) HC5.out (fun h => h))
    have HSRC : Hid (∀ wx, Chg (fun k => k = bo ∨ w5.heap.size ≤ k) w5 wx → LSrc t (orderT t) F bt gF gm (ra, t.r.length, rc) (ca, t.c.length, cc) (some ⟨gB, 0, none⟩, t.n.length, t.n.length) (ea, t.e.length, ec) (va, (orderT t).length, vc) wx) := Lib.hid (fun wx hx => by
      have hl := HLO.out
      have hbtv := HBT.out
      have hW : Chg (fun _ => False) w wx := ((HW3.out.any (S := fun k => bt ≤ k)).trans ((HC5.out.any (S := fun k => bt ≤ k)).trans (hx.mono (fun k _ e => by omega)))).mono (T := fun k => w.heap.size ≤ k) (fun k _ e => by omega) |>.fresh
      have h5 : Chg (fun k => k = bo) w5 wx := hx.mono (fun k hk e => by omega)
      have hT := HTB.out.same hW
      have h3 : Chg (fun k => k = bo) w3 wx := (HC5.out.any (S := fun k => k = bo)).trans h5
      have h4 : Chg (fun k => k = bo) w4 wx := (HCF5.out.any (S := fun k => k = bo)).trans h5
      exact ⟨HB3.out.chg h5 (by omega), hT.r.lower (Nat.zero_le _), hT.c.lower (Nat.zero_le _), (HLB3.out.chgB h3 (fun g hg e => by omega)).lower (Nat.zero_le _), hT.e.lower (Nat.zero_le _),
        ((HOV.out.in' (c' := vc) hvc).chgB h5 (fun g hg e => by omega)).lower (Nat.zero_le _), Elt.Row.chg HNF.out h4 (fun e => by omega), HMP.out.chg h5 (by omega)⟩)
    have HBO5 : Hid (BoxT w5 bo (none, 0, 0) (none, 0, 0) (none, 0, 0) (none, 0, 0) ∧ ∀ j, w5.frozen? ⟨bo, j, none⟩ = false) := Lib.hid (by
      have hl := HLO.out
      have h1 := HBO.out
      have e : wt.heap.size = bo := by have := HSTW.out; have := HBO1.out; omega
      rw [e] at h1
      have hc : Chg (fun k => k = bt) wa w5 := by
        have h := HA3.out
        rw [HBT.out] at h
        exact h.trans (HC5.out.mono (fun _ _ h => h.elim))
      exact ⟨h1.1.chg hc (by omega), fun j => (hc.frozen (p := ⟨bo, j, none⟩) (by have := HSA.out; have := HBO1.out; show bo < _; omega) (show ¬ bo = bt by omega)).trans (h1.2 j)⟩)
    have HPH5 : Hid (Ph2 w5 w5.heap.size bo (fun _ => 0) (zK t (orderT t) 0) (.slice none 0 0) (.slice none 0 0) (.slice none 0 0)) := Lib.hid ⟨.nil _ _ _ _ _, .nil _ _ _ _ _, .nil _ _ _ _ _, HBO5.out.1.1, HBO5.out.1.2.1, HBO5.out.1.2.2.1, HBO5.out.1.2.2.2, HBO5.out.2, by have := HLO.out; omega⟩
    have HORD := Lib.hid (order_ok HM.out)
    have HWC5 : Hid (Chg (fun k => bt ≤ k) w w5) := Lib.hid ((HW3.out.any (S := fun k => bt ≤ k)).trans HC5.out.any)
    rw [hbt] at q0
    rw [hbo, hbt]
    clear hbt hbo
    go_wp2
    clear q0 HB3 HBO5 HMP HNF HOV HLB HLB3 HS
    refine colsD_any t (orderT t) F bt bo gF gm rc cc t.n.length ec vc ra ca (some ⟨gB, 0, none⟩) ea va w5 HM HF HG (Lib.hid HORD.out.1) (Lib.hid HORD.out.2) hr1 HSRC HPH5 (fun _ _ d _ _ h => by cases d <;> exact h) (Lib.hid ?_)
    intro τ vcl vr vk w6 hph hc6
    intros
    obtain ⟨z, hz⟩ : ∃ z, leastZ t (orderT t) = z := ⟨_, rfl⟩
    rw [hz] at hph
    have hzf := zK_facts HM.out.cl (orderT t) t.r.length (Nat.le_refl _)
    rw [zK_all HM.out.cl, hz] at hzf
    have HZ := Lib.hid hz
    obtain ⟨cols, R, C⟩ := z
    simp only at hzf
    obtain ⟨hCR, hcl1, hrl1, hcol⟩ := hzf
    obtain ⟨vca, vcc, rfl, hvcc⟩ := hph.cols.shape
    simp only at hvcc
    have HPH6 := Lib.hid hph
    have HC6 := Lib.hid hc6
    have HCOL := Lib.hid hcol
    have HLEN : Hid (cols.length ≤ 1000000000 ∧ R.length ≤ 1000000000 ∧ C.length ≤ 1000000000) := Lib.hid (by omega)
    have HS6 : Hid (w5.heap.size ≤ w6.heap.size) := Lib.hid hc6.size
    have HSRC6 : Hid (∀ wx, Chg (fun k => k = bo ∨ w6.heap.size ≤ k) w6 wx → LSrc t (orderT t) F bt gF gm (ra, t.r.length, rc) (ca, t.c.length, cc) (some ⟨gB, 0, none⟩, t.n.length, t.n.length) (ea, t.e.length, ec) (va, (orderT t).length, vc) wx) := Lib.hid (fun wx hx => HSRC.out wx (HC6.out.trans (hx.mono (fun k _ e => by have := HS6.out; omega))))
    have HLI6 : Hid (∀ wx, Chg (fun k => k = bo ∨ w6.heap.size ≤ k) w6 wx → ListsIn wx w5.heap.size (vca, cols.length, vcc) cols) := Lib.hid (fun wx hx => HPH6.out.cols.lists.chgB (hx.mono (T := fun k => k = bo) (fun k hk e => by omega)) (fun g hg e => by have := HLO.out; omega))
    have HP36 : Hid (Ph3J w6 w6.heap.size bo (fun _ => 0) [] [] vr vk (.slice none 0 0) (.slice none 0 0)) := Lib.hid ⟨.nil _ _ _ _ _, .nil _ _ _ _ _, HPH6.out.c0, HPH6.out.c1, HPH6.out.c2, HPH6.out.c3, HPH6.out.zz, HPH6.out.lt⟩
    clear hph hc6 hz hcol hCR hcl1 hrl1
    go_wp2
    refine rowsE_any t (orderT t) F cols bt bo gF gm rc cc t.n.length ec vc vcc w5.heap.size ra ca (some ⟨gB, 0, none⟩) ea va vca vr vk w6 HM HF (Lib.hid HORD.out.1) HCOL HLEN.out.1 hvcc HSRC6 HLI6 HP36 (fun _ _ d _ _ h => by cases d <;> exact h) (Lib.hid ?_)
    intro τ3 vn ve w7 hp7 hc7
    intros
    have HP7 := Lib.hid hp7
    have HC7 := Lib.hid hc7
    clear hp7 hc7
    go_wp2_with fail
    obtain ⟨wd, hwd⟩ : ∃ W, w7.drew = W := ⟨_, rfl⟩
    have HDD : Hid (Chg (fun _ => False) w7 wd) := Lib.hid (by rw [← hwd]; exact (Chg.refl _ _).drew)
    have HPD := Lib.hid (HP7.out.same HDD.out)
    -- the ranges, the classes
    have HC6D : Hid (Chg (fun k => k = bo ∨ w6.heap.size ≤ k) w6 wd) := Lib.hid (HC7.out.trans HDD.out.any)
    have HR6 : Hid (TOwn rngE wd w5.heap.size τ 2 vr R ∧ TOwn intE wd w5.heap.size τ 3 vk C) := Lib.hid ⟨HPH6.out.r.far HC6D.out (fun g h1 h2 => by have := HLO.out; omega), HPH6.out.k.far HC6D.out (fun g h1 h2 => by have := HLO.out; omega)⟩
    have HRB : Hid ((∀ g, vr.ownBlock = some g → g < w6.heap.size) ∧ (∀ g, vk.ownBlock = some g → g < w6.heap.size)) := Lib.hid ⟨fun g hg => (HPH6.out.r.own.blk hg).2, fun g hg => (HPH6.out.k.own.blk hg).2⟩
    obtain ⟨ya, yc, rfl, hyc, hy⟩ := HR6.out.1.clip
    obtain ⟨ka, kc, rfl, hkc, hk⟩ := HR6.out.2.clip
    obtain ⟨pa, pc, rfl, hpc, hp⟩ := HPD.out.n.clip
    obtain ⟨ua, uc, rfl, huc, hu⟩ := HPD.out.e.clip
    have hnl : (rowsI cols (orderT t).length).length = (orderT t).length := by unfold rowsI; simp
    have hul : (endsI t.e (orderT t)).length = (orderT t).length := by unfold endsI; simp
    rw [hnl] at HPD hpc hp
    rw [hul] at HPD huc hu
    have HOY := Lib.hid (show _ ∧ _ ∧ _ ∧ _ from ⟨hy, hk, hp, hu⟩)
    have HNUL := Lib.hid (show _ ∧ _ from ⟨hnl, hul⟩)
    obtain ⟨nO, hnO⟩ : ∃ X, (orderT t).length = X := ⟨_, rfl⟩
    have HNO := Lib.hid hnO
    rw [hnO] at HPD hpc huc HOY HNUL ⊢
    have HLO2 : Hid (nO ≤ 1000000000) := Lib.hid (by have := HORD.out.1.len_le; omega)
    clear hy hk hp hu hnl hul hnO
    refine wp_region_late (fun x => x = wd) (fun i => decide (13 ≤ i)) (by kernel_rfl) ?_
    show wpAnyL _ _ _ _ _ _ 15 (Array.replicate 15 false) _ w7.drew
    rw [hwd]
    clear hwd HP7
    have HSS : Hid (wd = wd) := Lib.hid rfl
    (refine late_read (i := 0) rfl (by kernel_rfl) (fun _ _ _ _ h => h) rfl HSS.out (fun K hK => ?_); apply Exists.intro; refine ⟨fun w' hC => ?_, ?_⟩; ((skip); go_simp; try with_reducible rfl); (try go_simp); refine hK _ ?_; clear hK K)
    (refine late_read (i := 1) rfl (by kernel_rfl) (fun _ _ _ _ h => h) rfl HSS.out (fun K hK => ?_); apply Exists.intro; refine ⟨fun w' hC => ?_, ?_⟩; ((subst hC; have q := HPD.out.c0); go_simp; try with_reducible rfl); (try go_simp); refine hK _ ?_; clear hK K)
    (refine late_read (i := 3) rfl (by kernel_rfl) (fun _ _ _ _ h => h) rfl HSS.out (fun K hK => ?_); apply Exists.intro; refine ⟨fun w' hC => ?_, ?_⟩; ((skip); go_simp; try with_reducible rfl); (try go_simp); refine hK _ ?_; clear hK K)
    (refine late_read (i := 4) rfl (by kernel_rfl) (fun _ _ _ _ h => h) rfl HSS.out (fun K hK => ?_); apply Exists.intro; refine ⟨fun w' hC => ?_, ?_⟩; ((subst hC; have q := HPD.out.c1); go_simp; try with_reducible rfl); (try go_simp); refine hK _ ?_; clear hK K)
    (refine late_read (i := 6) rfl (by kernel_rfl) (fun _ _ _ _ h => h) rfl HSS.out (fun K hK => ?_); apply Exists.intro; refine ⟨fun w' hC => ?_, ?_⟩; ((skip); go_simp; try with_reducible rfl); (try go_simp); refine hK _ ?_; clear hK K)
    (refine late_read (i := 7) rfl (by kernel_rfl) (fun _ _ _ _ h => h) rfl HSS.out (fun K hK => ?_); apply Exists.intro; refine ⟨fun w' hC => ?_, ?_⟩; ((subst hC; have q := HPD.out.c2); go_simp; try with_reducible rfl); (try go_simp); refine hK _ ?_; clear hK K)
    (refine late_read (i := 9) rfl (by kernel_rfl) (fun _ _ _ _ h => h) rfl HSS.out (fun K hK => ?_); apply Exists.intro; refine ⟨fun w' hC => ?_, ?_⟩; ((skip); go_simp; try with_reducible rfl); (try go_simp); refine hK _ ?_; clear hK K)
    (refine late_read (i := 10) rfl (by kernel_rfl) (fun _ _ _ _ h => h) rfl HSS.out (fun K hK => ?_); apply Exists.intro; refine ⟨fun w' hC => ?_, ?_⟩; ((subst hC; have q := HPD.out.c3); go_simp; try with_reducible rfl); (try go_simp); refine hK _ ?_; clear hK K)
    refine late_call (i := 2) (by kernel_rfl) rfl rfl 35 #[.slice ya R.length yc] (fun q w'' => q = .slice ya R.length R.length ∧ wd = w'') (by go_simp) ?_ ?_
    · refine (clipRng wd ya _ yc hyc).mono ?_
      rintro e w2 ⟨rfl, rfl⟩
      exact ⟨_, rfl, fun _ => rfl, rfl, rfl⟩
    rintro q w'' - ⟨rfl, rfl⟩ K hK
    (try go_simp)
    refine hK _ ?_
    clear hK K
    refine late_call (i := 5) (by kernel_rfl) rfl rfl 36 #[.slice ka C.length kc] (fun q w'' => q = .slice ka C.length C.length ∧ wd = w'') (by go_simp) ?_ ?_
    · refine (clipInt wd ka _ kc hkc).mono ?_
      rintro e w2 ⟨rfl, rfl⟩
      exact ⟨_, rfl, fun _ => rfl, rfl, rfl⟩
    rintro q w'' - ⟨rfl, rfl⟩ K hK
    (try go_simp)
    refine hK _ ?_
    clear hK K
    refine late_call (i := 8) (by kernel_rfl) rfl rfl 37 #[.slice pa nO pc] (fun q w'' => q = .slice pa nO nO ∧ wd = w'') (by go_simp) ?_ ?_
    · refine (clipList wd pa _ pc hpc).mono ?_
      rintro e w2 ⟨rfl, rfl⟩
      exact ⟨_, rfl, fun _ => rfl, rfl, rfl⟩
    rintro q w'' - ⟨rfl, rfl⟩ K hK
    (try go_simp)
    refine hK _ ?_
    clear hK K
    refine late_call (i := 11) (by kernel_rfl) rfl rfl 36 #[.slice ua nO uc] (fun q w'' => q = .slice ua nO nO ∧ wd = w'') (by go_simp) ?_ ?_
    · refine (clipInt wd ua _ uc huc).mono ?_
      rintro e w2 ⟨rfl, rfl⟩
      exact ⟨_, rfl, fun _ => rfl, rfl, rfl⟩
    rintro q w'' - ⟨rfl, rfl⟩ K hK
    (try go_simp)
    refine hK _ ?_
    clear hK K
    (refine late_turn (i := 12) (by kernel_rfl) rfl rfl (fun K hK => ?_); apply Exists.intro; apply Exists.intro; refine ⟨?_, ?_, ?_⟩; ((skip); go_simp; try first | with_reducible rfl | exact ⟨rfl, rfl⟩); (exact fun _ => rfl); (try go_simp); refine hK _ _ ?_; clear hK K)
    have c0 := HPD.out.c0
    have c1 := HPD.out.c1
    have c2 := HPD.out.c2
    have c3 := HPD.out.c3
    have z0 := HPD.out.zz 0
    have z1 := HPD.out.zz 1
    have z2 := HPD.out.zz 2
    have z3 := HPD.out.zz 3
    obtain ⟨s0, s1, s2, s3, hsc, -⟩ := store4 (.slice ya R.length R.length) (.slice ka C.length C.length) (.slice pa nO nO) (.slice ua nO nO) c0 c1 c2 c3
    have HSF := Lib.hid (show _ ∧ _ ∧ _ ∧ _ ∧ _ from ⟨s0, s1, s2, s3, hsc⟩)
    clear s0 s1 s2 s3 hsc
    (refine late_store (i := 13) (by kernel_rfl) rfl rfl (fun K hK => ?_); apply Exists.intro; refine ⟨?_, (fun h => absurd h (by decide)), ?_⟩; ((skip); go_simp; try first | with_reducible rfl | exact ⟨rfl, rfl⟩); (try go_simp); refine hK _ _ ?_; clear hK K)
    (refine late_turn (i := 14) (by kernel_rfl) rfl rfl (fun K hK => ?_); apply Exists.intro; apply Exists.intro; refine ⟨?_, ?_, ?_⟩; ((skip); go_simp; try first | with_reducible rfl | exact ⟨rfl, rfl⟩); (exact fun h => absurd h (by decide)); (try go_simp); refine hK _ _ ?_; clear hK K)
    refine late_done (by kernel_rfl) ?_ _
    have HFIN : Hid (OwnT ((((wd.setCell ⟨bo, 0, none⟩ (.slice ya R.length R.length)).setCell ⟨bo, 1, none⟩ (.slice ka C.length C.length)).setCell ⟨bo, 2, none⟩ (.slice pa nO nO)).setCell ⟨bo, 3, none⟩ (.slice ua nO nO)) w.heap.size (fun g => if g < w6.heap.size then (if τ g = 2 then 3 else 4) else τ3 g) (ya, R.length, R.length) (ka, C.length, C.length) (pa, nO, nO) (ua, nO, nO) (leastT t) ∧ Chg (fun _ => False) w ((((wd.setCell ⟨bo, 0, none⟩ (.slice ya R.length R.length)).setCell ⟨bo, 1, none⟩ (.slice ka C.length C.length)).setCell ⟨bo, 2, none⟩ (.slice pa nO nO)).setCell ⟨bo, 3, none⟩ (.slice ua nO nO))) := Lib.hid (by
      have hsc := HSF.out.2.2.2.2
      have hl := HLO.out
      have h56 := HS6.out
      have hT : leastT t = ⟨R, C, rowsI cols nO, endsI t.e (orderT t)⟩ := by
        unfold leastT mkT
        rw [HZ.out, HNO.out]
        rfl
      obtain ⟨o1, o2, o3, o4⟩ := HOY.out
      have hn3 := HNUL.out
      have hbt := HBT.out
      have far : ∀ g, w5.heap.size ≤ g → ¬ g = bo := fun g hg e => by omega
      have hB : w.heap.size ≤ w5.heap.size := by omega
      refine ⟨⟨?_, ?_, ?_, ?_, ?_⟩, ?_⟩
      · rw [hT]
        refine (TOwn.chg (τ := fun g => if g < w6.heap.size then (if τ g = 2 then 3 else 4) else τ3 g) (k := 3) ⟨o1.own, fun g hg => ?_⟩ hsc (fun g hg _ => far g hg)).lower hB
        show (if g < w6.heap.size then (if τ g = 2 then 3 else 4) else τ3 g) = 3
        rw [if_pos (HRB.out.1 g (by cases ya with | none => cases hg | some ad => exact hg)), if_pos (o1.tag g hg)]
      · rw [hT]
        refine (TOwn.chg (τ := fun g => if g < w6.heap.size then (if τ g = 2 then 3 else 4) else τ3 g) (k := 4) ⟨o2.own, fun g hg => ?_⟩ hsc (fun g hg _ => far g hg)).lower hB
        show (if g < w6.heap.size then (if τ g = 2 then 3 else 4) else τ3 g) = 4
        rw [if_pos (HRB.out.2 g (by cases ka with | none => cases hg | some ad => exact hg)), if_neg (by rw [o2.tag g hg]; decide)]
      · rw [hT]
        have hm := o3.mark (τ' := fun g => if g < w6.heap.size then (if τ g = 2 then 3 else 4) else τ3 g) (fun g hg _ => by rw [if_neg (by omega)])
        exact ((hm.chg hsc (fun g hg _ => far g (by omega))).lower (Nat.le_trans hB h56))
      · rw [hT]
        have hm := o4.mark (τ' := fun g => if g < w6.heap.size then (if τ g = 2 then 3 else 4) else τ3 g) (fun g hg _ => by rw [if_neg (by omega)])
        exact ((hm.chg hsc (fun g hg _ => far g (by omega))).lower (Nat.le_trans hB h56))
      · rw [hT]
        exact ⟨rfl, rfl, hn3.1.symm, hn3.2.symm⟩
      · have h5 : Chg (fun k => bt ≤ k) w5 wd := (HC6.out.mono (fun k _ e => by omega)).trans ((HC7.out.mono (fun k _ e => by omega)).trans HDD.out.any)
        have := (HWC5.out.trans h5).trans (hsc.mono (T := fun k => bt ≤ k) (fun k _ e => by omega))
        exact (this.mono (T := fun k => w.heap.size ≤ k) (fun k _ e => by omega)).fresh)
    clear c0 c1 c2 c3 z0 z1 z2 z3
    go_wp2
    obtain ⟨s0, s1, s2, s3, -⟩ := HSF.out
    exact bodyPost_ret (v := .tuple #[.agg #[.slice ya R.length R.length, .slice ka C.length C.length, .slice pa nO nO, .slice ua nO nO], .int .i64 0]) (by simp [results, Try.results10, go_sem, s0, s1, s2, s3]) rfl (by unfold LeastOwn; rw [if_pos HMY.out]; exact ⟨_, _, _, _, _, rfl, HFIN.out.1, HFIN.out.2⟩)
end Go.Proofs.Ytodohgckncnipaa
