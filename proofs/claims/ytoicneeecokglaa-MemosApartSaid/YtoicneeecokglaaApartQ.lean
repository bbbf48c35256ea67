/- 'MemosApart': the loop that asks, of one rule or decision. -/
import Derived.Test.YtoicneeecokglaaApartF
import Derived.LoopTactic
import Derived.Deep.DeepCutAuto
import Derived.Deep.CutBlock
namespace Go.Proofs.Ytoicneeecokglaa
open Go.RowKit Go.Maps

noncomputable def askBody : Code := ((Try.f5.body.map loopsOf).getD [])[4]?.getD .skip

set_option maxRecDepth 100000 in
set_option maxHeartbeats 16000000 in
theorem ask_any (x y : Int) (a : Option Addr) (cap : Nat) (Z : List Int) (w wo : World) (b br bp t i : Nat) (A K : Int) (f : Nat → Nat → Int) (s : MS) (_ : 0 ≤ x) (_ : x ≤ 255) (_ : 0 ≤ y) (_ : y ≤ 255)
    (hi16 : i < 16) (hA0 : 0 ≤ A) (hA1 : A ≤ 13 * i) (hK0 : 0 ≤ K) (hK1 : K ≤ 13 * i) (HS : Hid (QSt w wo b br bp t (x % 9) (y % 9) f s A K))
    {Q0 : Exit → Act → World → Prop} {c3 c4 c5 c6 c10 c12 c13 c14 c15 c16 c17 c22 c23 c24 c25 c26 c27 c28 c29 c30 c31 c32 c33 c34 c35 c36 c37 c38 c39 c40 c41 c42 c43 c44 c45 c46 c47 c48 c49 c50 c51 c52 c53 c54 c55 c56 c57 c58 c59 c60 c61 c62 c63 c64 c65 c66 c67 c68 c69 c70 c71 c72 c73 c74 c75 c76 c77 c78 c79 c80 c81 c82 c83 c84 c85 c86 c87 c88 c89 c90 c91 c92 c93 c94 c95 c96 c97 c98 c99 c100 c101 c102 c103 c104 c105 c106 c107 c108 c109 c110 c111 c112 c113 c114 c115 c116 c117 c118 c119 c120 c121 c122 c123 c124 c125 c126 c127 c128 c129 c130 c131 c132 c133 c134 c135 c136 c137 c138 c139 c140 c141 c142 c143 c144 c145 c146 c147 c148 c149 c150 c151 c152 c153 c154 c155 c156 c157 c158 c159 c160 c161 c162 c163 c164 c165 c166 c167 c168 c169 c170 c171 c172 c173 c174 c175 c176 c177 c178 c179 c180 c181 c182 c183 c184 c185 c186 c187 c188 c189 c190 c191 c192 c193 c194 c195 c196 c197 c198 c199 c200 c201 c202 c203 c204 c205 c206 c207 c208 c209 c210 c211 c212 c213 c214 c215 c216 c217 c218 c219 c220 c221 c222 c223 c224 c225 c226 c227 c228 c229 c230 c231 c232 c233 c234 c235 c236 c237 c238 c239 c240 c241 c242 c243 c244 c245 c246 c247 c248 c249 c250 c251 c252 : Value}
    (HEX : Hid (∀ (A K : Int) (s : MS) (w' : World), 0 ≤ A → A ≤ 13 * i + 13 → 0 ≤ K → K ≤ 13 * i + 13 → QSt w w' b br bp t (x % 9) (y % 9) f s A K → ∀ u6 u22 u23 u24 u168 u169 u170 u171 u172 u173 u174 u175 u176 u177 u178 u179 u180 u181 u182 u183 u184 u185 u186 u187 u188 u189 u190 u191 u192 u193 u194 u195 u196 u197 u198 u199 u200 u201 u202 u203 u204 u205 u206 u207 u208 u209 u210 u211 u212 u213 u214 u215 u216 u217 u218 u219 u220 u221 u222 u223 u224 u225 u226 u227 u228 u229 : Value, Q0 (.exit 8) ⟨List.toArray ((.int .u8 x) :: (.int .u8 y) :: (.slice a Z.length cap) :: c3 :: c4 :: c5 :: u6 :: (.int .i64 (x % 9)) :: (.int .i64 (y % 9)) :: (.pointer (some ⟨b, 0, none⟩)) :: c10 :: (.pointer (some ⟨t, 0, none⟩)) :: c12 :: c13 :: c14 :: c15 :: c16 :: c17 :: (.int .i64 A) :: (.int .i64 K) :: (.int .i64 i) :: (.int .i64 13) :: u22 :: u23 :: u24 :: c25 :: c26 :: c27 :: c28 :: c29 :: c30 :: c31 :: c32 :: c33 :: c34 :: c35 :: c36 :: c37 :: c38 :: c39 :: c40 :: c41 :: c42 :: c43 :: c44 :: c45 :: c46 :: c47 :: c48 :: c49 :: c50 :: c51 :: c52 :: c53 :: c54 :: c55 :: c56 :: c57 :: c58 :: c59 :: c60 :: c61 :: c62 :: c63 :: c64 :: c65 :: c66 :: c67 :: c68 :: c69 :: c70 :: c71 :: c72 :: c73 :: c74 :: c75 :: c76 :: c77 :: c78 :: c79 :: c80 :: c81 :: c82 :: c83 :: c84 :: c85 :: c86 :: c87 :: c88 :: c89 :: c90 :: c91 :: c92 :: c93 :: c94 :: c95 :: c96 :: c97 :: c98 :: c99 :: c100 :: c101 :: c102 :: c103 :: c104 :: c105 :: c106 :: c107 :: c108 :: c109 :: c110 :: c111 :: c112 :: c113 :: c114 :: c115 :: c116 :: c117 :: c118 :: c119 :: c120 :: c121 :: c122 :: c123 :: c124 :: c125 :: c126 :: c127 :: c128 :: c129 :: c130 :: c131 :: c132 :: c133 :: c134 :: c135 :: c136 :: c137 :: c138 :: c139 :: c140 :: c141 :: c142 :: c143 :: c144 :: c145 :: c146 :: c147 :: c148 :: c149 :: c150 :: c151 :: c152 :: c153 :: c154 :: c155 :: c156 :: c157 :: c158 :: c159 :: c160 :: c161 :: c162 :: c163 :: c164 :: c165 :: c166 :: c167 :: u168 :: u169 :: u170 :: u171 :: u172 :: u173 :: u174 :: u175 :: u176 :: u177 :: u178 :: u179 :: u180 :: u181 :: u182 :: u183 :: u184 :: u185 :: u186 :: u187 :: u188 :: u189 :: u190 :: u191 :: u192 :: u193 :: u194 :: u195 :: u196 :: u197 :: u198 :: u199 :: u200 :: u201 :: u202 :: u203 :: u204 :: u205 :: u206 :: u207 :: u208 :: u209 :: u210 :: u211 :: u212 :: u213 :: u214 :: u215 :: u216 :: u217 :: u218 :: u219 :: u220 :: u221 :: u222 :: u223 :: u224 :: u225 :: u226 :: u227 :: u228 :: u229 :: c230 :: c231 :: c232 :: c233 :: c234 :: c235 :: c236 :: c237 :: c238 :: c239 :: c240 :: c241 :: c242 :: c243 :: c244 :: c245 :: c246 :: c247 :: c248 :: c249 :: c250 :: c251 :: c252 :: []), []⟩ w')) :
    Code.wp Try.prog (Code.loop askBody) Q0 ⟨List.toArray ((.int .u8 x) :: (.int .u8 y) :: (.slice a Z.length cap) :: c3 :: c4 :: c5 :: c6 :: (.int .i64 (x % 9)) :: (.int .i64 (y % 9)) :: (.pointer (some ⟨b, 0, none⟩)) :: c10 :: (.pointer (some ⟨t, 0, none⟩)) :: c12 :: c13 :: c14 :: c15 :: c16 :: c17 :: (.int .i64 A) :: (.int .i64 K) :: (.int .i64 i) :: (.int .i64 0) :: c22 :: c23 :: c24 :: c25 :: c26 :: c27 :: c28 :: c29 :: c30 :: c31 :: c32 :: c33 :: c34 :: c35 :: c36 :: c37 :: c38 :: c39 :: c40 :: c41 :: c42 :: c43 :: c44 :: c45 :: c46 :: c47 :: c48 :: c49 :: c50 :: c51 :: c52 :: c53 :: c54 :: c55 :: c56 :: c57 :: c58 :: c59 :: c60 :: c61 :: c62 :: c63 :: c64 :: c65 :: c66 :: c67 :: c68 :: c69 :: c70 :: c71 :: c72 :: c73 :: c74 :: c75 :: c76 :: c77 :: c78 :: c79 :: c80 :: c81 :: c82 :: c83 :: c84 :: c85 :: c86 :: c87 :: c88 :: c89 :: c90 :: c91 :: c92 :: c93 :: c94 :: c95 :: c96 :: c97 :: c98 :: c99 :: c100 :: c101 :: c102 :: c103 :: c104 :: c105 :: c106 :: c107 :: c108 :: c109 :: c110 :: c111 :: c112 :: c113 :: c114 :: c115 :: c116 :: c117 :: c118 :: c119 :: c120 :: c121 :: c122 :: c123 :: c124 :: c125 :: c126 :: c127 :: c128 :: c129 :: c130 :: c131 :: c132 :: c133 :: c134 :: c135 :: c136 :: c137 :: c138 :: c139 :: c140 :: c141 :: c142 :: c143 :: c144 :: c145 :: c146 :: c147 :: c148 :: c149 :: c150 :: c151 :: c152 :: c153 :: c154 :: c155 :: c156 :: c157 :: c158 :: c159 :: c160 :: c161 :: c162 :: c163 :: c164 :: c165 :: c166 :: c167 :: c168 :: c169 :: c170 :: c171 :: c172 :: c173 :: c174 :: c175 :: c176 :: c177 :: c178 :: c179 :: c180 :: c181 :: c182 :: c183 :: c184 :: c185 :: c186 :: c187 :: c188 :: c189 :: c190 :: c191 :: c192 :: c193 :: c194 :: c195 :: c196 :: c197 :: c198 :: c199 :: c200 :: c201 :: c202 :: c203 :: c204 :: c205 :: c206 :: c207 :: c208 :: c209 :: c210 :: c211 :: c212 :: c213 :: c214 :: c215 :: c216 :: c217 :: c218 :: c219 :: c220 :: c221 :: c222 :: c223 :: c224 :: c225 :: c226 :: c227 :: c228 :: c229 :: c230 :: c231 :: c232 :: c233 :: c234 :: c235 :: c236 :: c237 :: c238 :: c239 :: c240 :: c241 :: c242 :: c243 :: c244 :: c245 :: c246 :: c247 :: c248 :: c249 :: c250 :: c251 :: c252 :: []), []⟩ wo := by
  conv => arg 2; arg 1; whnf
  go_loopw [18, 19, 21] (fun a' n' k wr => ∃ (k' : Nat) (A K : Int) (s : MS), k' ≤ 13 ∧ a' = .int .i64 A ∧ n' = .int .i64 K ∧ k = .int .i64 k' ∧ 0 ≤ A ∧ A ≤ 13 * i + k' ∧ 0 ≤ K ∧ K ≤ 13 * i + k' ∧ QSt w wr b br bp t (x % 9) (y % 9) f s A K) (fun _ _ k _ => 13 - (intOf k).toNat)
  case atStart => exact ⟨0, A, K, _, by omega, rfl, rfl, rfl, by omega, by omega, by omega, by omega, HS.out⟩
  case round =>
    clear HS hA0 hA1 hK0 hK1
    obtain ⟨k, A, K, s, hk, rfl, rfl, rfl, hA0, hA1, hK0, hK1, hst⟩ := hrel
    by_cases hk13 : k < 13
    · have hcell := hst.want.c i k hi16 hk13
      have HS := Lib.hid hst
      clear hst
      have HF := Lib.hid (HS.out.fine (by omega) (by omega))
      by_cases hi8 : i < 8
      · have HR := Lib.hid (HS.out.rel.askRule (i := i) (k := k) hi8 hk13)
        have hbad := fun h => HS.out.rel.bad i k hi16 hk13 (.inl ⟨hi8, h⟩)
        obtain ⟨v, hv⟩ : ∃ v, f i k = v := ⟨_, rfl⟩
        rw [hv] at hcell hbad
        have HV := Lib.hid hv
        clear hv
        by_cases hv9 : v = -9
        · subst hv9
          clear hbad
          by_cases hir : (i : Int) < x % 9
          · have HE : Hid (ansOf (hasB s.nr s.nt i k) (s.R i k) = .tuple #[.int .i64 0, .bool false]) := Lib.hid (by unfold ansOf; rw [HR.out.1, HR.out.2.1, HV.out]; simp)
            have HA1 : Hid ((s.askR i k).asked = A + 1) := Lib.hid (by rw [HR.out.2.2.2.1, HS.out.a, if_pos hir])
            have HK1 : Hid ((s.askR i k).known = K) := Lib.hid (by rw [HR.out.2.2.2.2.1, HS.out.n, HV.out, if_pos rfl]; simp)
            go_wp2_with fail
            refine (ruleR_at b br bp s i k wr ⟨by omega, by omega⟩ ⟨by omega, by omega⟩ HS.out.m HF.out).mono ?_
            rintro e w3 ⟨rfl, hm3, hc3⟩
            rw [HE.out]
            have HS3 := Lib.hid (HS.out.asked hm3 HR.out.2.2.1 hc3 HA1.out HK1.out HR.out.2.2.2.2.2)
            have hcell' := hc3.cellS hcell HS.out.h2.1
            clear hm3 hc3 HR HE HA1 HK1 HF hcell HS
            go_wp2
            go_roundw
            case rel => first | exact ⟨k + 1, A + 1, K, _, by omega, rfl, rfl, by go_num, by omega, by omega, by omega, by omega, HS3.out⟩ | ((repeat apply Exists.intro); exact ⟨⟨k + 1, A + 1, K, _, by omega, rfl, rfl, by go_num, by omega, by omega, by omega, by omega, HS3.out⟩, rfl⟩)
            case measure => simp [intOf]; omega
          · have HE : Hid (ansOf (hasB s.nr s.nt i k) (s.R i k) = .tuple #[.int .i64 0, .bool false]) := Lib.hid (by unfold ansOf; rw [HR.out.1, HR.out.2.1, HV.out]; simp)
            have HA1 : Hid ((s.askR i k).asked = A) := Lib.hid (by rw [HR.out.2.2.2.1, HS.out.a, if_neg hir]; simp)
            have HK1 : Hid ((s.askR i k).known = K) := Lib.hid (by rw [HR.out.2.2.2.2.1, HS.out.n, HV.out, if_pos rfl]; simp)
            go_wp2_with fail
            refine (ruleR_at b br bp s i k wr ⟨by omega, by omega⟩ ⟨by omega, by omega⟩ HS.out.m HF.out).mono ?_
            rintro e w3 ⟨rfl, hm3, hc3⟩
            rw [HE.out]
            have HS3 := Lib.hid (HS.out.asked hm3 HR.out.2.2.1 hc3 HA1.out HK1.out HR.out.2.2.2.2.2)
            have hcell' := hc3.cellS hcell HS.out.h2.1
            clear hm3 hc3 HR HE HA1 HK1 HF hcell HS
            go_wp2
            go_roundw
            case rel => first | exact ⟨k + 1, A, K, _, by omega, rfl, rfl, by go_num, by omega, by omega, by omega, by omega, HS3.out⟩ | ((repeat apply Exists.intro); exact ⟨⟨k + 1, A, K, _, by omega, rfl, rfl, by go_num, by omega, by omega, by omega, by omega, HS3.out⟩, rfl⟩)
            case measure => simp [intOf]; omega
        · have hir : (i : Int) < x % 9 := by
            by_cases h : (i : Int) < x % 9
            · exact h
            · exact (hv9 (hbad (by omega))).elim
          have qv : (v != -9) = true := by simpa using hv9
          clear hbad
          have HE : Hid (ansOf (hasB s.nr s.nt i k) (s.R i k) = .tuple #[.int .i64 v, .bool true]) := Lib.hid (by unfold ansOf; rw [HR.out.1, HR.out.2.1, HV.out]; simp [hv9])
          have HA1 : Hid ((s.askR i k).asked = A + 1) := Lib.hid (by rw [HR.out.2.2.2.1, HS.out.a, if_pos hir])
          have HK1 : Hid ((s.askR i k).known = K + 1) := Lib.hid (by rw [HR.out.2.2.2.2.1, HS.out.n, HV.out, if_neg hv9])
          go_wp2_with fail
          refine (ruleR_at b br bp s i k wr ⟨by omega, by omega⟩ ⟨by omega, by omega⟩ HS.out.m HF.out).mono ?_
          rintro e w3 ⟨rfl, hm3, hc3⟩
          rw [HE.out]
          have HS3 := Lib.hid (HS.out.asked hm3 HR.out.2.2.1 hc3 HA1.out HK1.out HR.out.2.2.2.2.2)
          have hcell' := hc3.cellS hcell HS.out.h2.1
          clear hm3 hc3 HR HE HA1 HK1 HF hcell HS
          go_wp2
          go_roundw
          case rel => first | exact ⟨k + 1, A + 1, K + 1, _, by omega, rfl, rfl, by go_num, by omega, by omega, by omega, by omega, HS3.out⟩ | ((repeat apply Exists.intro); exact ⟨⟨k + 1, A + 1, K + 1, _, by omega, rfl, rfl, by go_num, by omega, by omega, by omega, by omega, HS3.out⟩, rfl⟩)
          case measure => simp [intOf]; omega
      · have e8 : ((i - 8 : Nat) : Int) = (i : Int) - 8 := by omega
        have HR := Lib.hid (HS.out.rel.askPick (i := i) (k := k) (by omega) hi16 hk13)
        rw [e8] at HR
        have HN0 := Lib.hid (HS.out.rel.askNone (i := i) (k := k) (by omega))
        have HE0 : Hid (ansOf (hasB s.nr s.nt i k) (s.R i k) = .tuple #[.int .i64 0, .bool false]) := Lib.hid (by unfold ansOf; rw [HN0.out.1, HN0.out.2.1])
        have hbad := fun h => HS.out.rel.bad i k hi16 hk13 (.inr ⟨by omega, h⟩)
        rw [e8] at hbad
        clear e8
        obtain ⟨v, hv⟩ : ∃ v, f i k = v := ⟨_, rfl⟩
        rw [hv] at hcell hbad
        have HV := Lib.hid hv
        clear hv
        by_cases hv9 : v = -9
        · subst hv9
          clear hbad
          by_cases hip : (i : Int) - 8 < y % 9
          · have HE : Hid (ansOf (hasB s.np s.nt ((i : Int) - 8) k) (s.P ((i : Int) - 8) k) = .tuple #[.int .i64 0, .bool false]) := Lib.hid (by unfold ansOf; rw [HR.out.1, HR.out.2.1, HV.out]; simp)
            have HA1 : Hid ((s.askP ((i : Int) - 8) k).asked = A + 1) := Lib.hid (by rw [HR.out.2.2.2.1, HS.out.a, if_pos hip])
            have HK1 : Hid ((s.askP ((i : Int) - 8) k).known = K) := Lib.hid (by rw [HR.out.2.2.2.2.1, HS.out.n, HV.out, if_pos rfl]; simp)
            go_wp2_with fail
            refine (ruleR_at b br bp s i k wr ⟨by omega, by omega⟩ ⟨by omega, by omega⟩ HS.out.m HF.out).mono ?_
            rintro e w2 ⟨rfl, hm2, hc2⟩
            rw [HE0.out]
            rw [HN0.out.2.2] at hm2
            have HS2 := Lib.hid (HS.out.asked hm2 HS.out.rel hc2 HS.out.a HS.out.n rfl)
            have hcell2 := hc2.cellS hcell HS.out.h2.1
            clear hm2 hc2 hcell
            go_wp2_with fail
            refine (ruleP_at b br bp s ((i : Int) - 8) k w2 ⟨by omega, by omega⟩ ⟨by omega, by omega⟩ HS2.out.m HF.out).mono ?_
            rintro e w3 ⟨rfl, hm3, hc3⟩
            rw [HE.out]
            have HS3 := Lib.hid (HS2.out.asked hm3 HR.out.2.2.1 hc3 HA1.out HK1.out HR.out.2.2.2.2.2)
            have hcell' := hc3.cellS hcell2 HS.out.h2.1
            clear hm3 hc3 HR HE HA1 HK1 HF hcell2 HS HS2 HE0 HN0
            go_wp2
            go_roundw
            case rel => first | exact ⟨k + 1, A + 1, K, _, by omega, rfl, rfl, by go_num, by omega, by omega, by omega, by omega, HS3.out⟩ | ((repeat apply Exists.intro); exact ⟨⟨k + 1, A + 1, K, _, by omega, rfl, rfl, by go_num, by omega, by omega, by omega, by omega, HS3.out⟩, rfl⟩)
            case measure => simp [intOf]; omega
          · have HE : Hid (ansOf (hasB s.np s.nt ((i : Int) - 8) k) (s.P ((i : Int) - 8) k) = .tuple #[.int .i64 0, .bool false]) := Lib.hid (by unfold ansOf; rw [HR.out.1, HR.out.2.1, HV.out]; simp)
            have HA1 : Hid ((s.askP ((i : Int) - 8) k).asked = A) := Lib.hid (by rw [HR.out.2.2.2.1, HS.out.a, if_neg hip]; simp)
            have HK1 : Hid ((s.askP ((i : Int) - 8) k).known = K) := Lib.hid (by rw [HR.out.2.2.2.2.1, HS.out.n, HV.out, if_pos rfl]; simp)
            go_wp2_with fail
            refine (ruleR_at b br bp s i k wr ⟨by omega, by omega⟩ ⟨by omega, by omega⟩ HS.out.m HF.out).mono ?_
            rintro e w2 ⟨rfl, hm2, hc2⟩
            rw [HE0.out]
            rw [HN0.out.2.2] at hm2
            have HS2 := Lib.hid (HS.out.asked hm2 HS.out.rel hc2 HS.out.a HS.out.n rfl)
            have hcell2 := hc2.cellS hcell HS.out.h2.1
            clear hm2 hc2 hcell
            go_wp2_with fail
            refine (ruleP_at b br bp s ((i : Int) - 8) k w2 ⟨by omega, by omega⟩ ⟨by omega, by omega⟩ HS2.out.m HF.out).mono ?_
            rintro e w3 ⟨rfl, hm3, hc3⟩
            rw [HE.out]
            have HS3 := Lib.hid (HS2.out.asked hm3 HR.out.2.2.1 hc3 HA1.out HK1.out HR.out.2.2.2.2.2)
            have hcell' := hc3.cellS hcell2 HS.out.h2.1
            clear hm3 hc3 HR HE HA1 HK1 HF hcell2 HS HS2 HE0 HN0
            go_wp2
            go_roundw
            case rel => first | exact ⟨k + 1, A, K, _, by omega, rfl, rfl, by go_num, by omega, by omega, by omega, by omega, HS3.out⟩ | ((repeat apply Exists.intro); exact ⟨⟨k + 1, A, K, _, by omega, rfl, rfl, by go_num, by omega, by omega, by omega, by omega, HS3.out⟩, rfl⟩)
            case measure => simp [intOf]; omega
        · have hip : (i : Int) - 8 < y % 9 := by
            by_cases h : (i : Int) - 8 < y % 9
            · exact h
            · exact (hv9 (hbad (by omega))).elim
          have qv : (v != -9) = true := by simpa using hv9
          clear hbad
          have HE : Hid (ansOf (hasB s.np s.nt ((i : Int) - 8) k) (s.P ((i : Int) - 8) k) = .tuple #[.int .i64 v, .bool true]) := Lib.hid (by unfold ansOf; rw [HR.out.1, HR.out.2.1, HV.out]; simp [hv9])
          have HA1 : Hid ((s.askP ((i : Int) - 8) k).asked = A + 1) := Lib.hid (by rw [HR.out.2.2.2.1, HS.out.a, if_pos hip])
          have HK1 : Hid ((s.askP ((i : Int) - 8) k).known = K + 1) := Lib.hid (by rw [HR.out.2.2.2.2.1, HS.out.n, HV.out, if_neg hv9])
          go_wp2_with fail
          refine (ruleR_at b br bp s i k wr ⟨by omega, by omega⟩ ⟨by omega, by omega⟩ HS.out.m HF.out).mono ?_
          rintro e w2 ⟨rfl, hm2, hc2⟩
          rw [HE0.out]
          rw [HN0.out.2.2] at hm2
          have HS2 := Lib.hid (HS.out.asked hm2 HS.out.rel hc2 HS.out.a HS.out.n rfl)
          have hcell2 := hc2.cellS hcell HS.out.h2.1
          clear hm2 hc2 hcell
          go_wp2_with fail
          refine (ruleP_at b br bp s ((i : Int) - 8) k w2 ⟨by omega, by omega⟩ ⟨by omega, by omega⟩ HS2.out.m HF.out).mono ?_
          rintro e w3 ⟨rfl, hm3, hc3⟩
          rw [HE.out]
          have HS3 := Lib.hid (HS2.out.asked hm3 HR.out.2.2.1 hc3 HA1.out HK1.out HR.out.2.2.2.2.2)
          have hcell' := hc3.cellS hcell2 HS.out.h2.1
          clear hm3 hc3 HR HE HA1 HK1 HF hcell2 HS HS2 HE0 HN0
          go_wp2
          go_roundw
          case rel => first | exact ⟨k + 1, A + 1, K + 1, _, by omega, rfl, rfl, by go_num, by omega, by omega, by omega, by omega, HS3.out⟩ | ((repeat apply Exists.intro); exact ⟨⟨k + 1, A + 1, K + 1, _, by omega, rfl, rfl, by go_num, by omega, by omega, by omega, by omega, HS3.out⟩, rfl⟩)
          case measure => simp [intOf]; omega
    · obtain rfl : k = 13 := by omega
      have HS := Lib.hid hst
      clear hst
      go_wp2_with fail
      exact HEX.out A K s wr hA0 (by omega) hK0 (by omega) HS.out _ _ _ _ _ _ _ _ _ _ _ _ _ _ _ _ _ _ _ _ _ _ _ _ _ _ _ _ _ _ _ _ _ _ _ _ _ _ _ _ _ _ _ _ _ _ _ _ _ _ _ _ _ _ _ _ _ _ _ _ _ _ _ _ _ _
end Go.Proofs.Ytoicneeecokglaa
