/- 'MemosApart': the loop that says what is said, of one rule or decision. -/
import Derived.Test.YtoicneeecokglaaApartL
import Derived.LoopTactic
import Derived.Deep.DeepCutAuto
import Derived.Deep.CutBlock
namespace Go.Proofs.Ytoicneeecokglaa
open Go.RowKit Go.Maps

/-- The bodies of the loops in a piece of code, in the text's order. -/
def loopsOf : Code → List Code
  | .loop c => c :: loopsOf c
  | .seq a b => loopsOf a ++ loopsOf b
  | .block _ c => loopsOf c
  | .scope c => loopsOf c
  | .cond _ a b => loopsOf a ++ loopsOf b
  | _ => []
noncomputable def fillBody : Code := ((Try.f5.body.map loopsOf).getD [])[1]?.getD .skip

set_option maxRecDepth 100000 in
set_option maxHeartbeats 16000000 in
theorem fill_any (x y : Int) (a : Option Addr) (g o cap : Nat) (Z : List Int) (w wo : World) (b br bp t q i : Nat) (f : Nat → Nat → Int) (s : MS) (_ : 0 ≤ x) (_ : x ≤ 255) (_ : 0 ≤ y) (_ : y ≤ 255)
    (HZ : Hid (BytesAt w g o Z)) (HA : Hid (0 < Z.length → a = some ⟨g, o, none⟩)) (hl : Z.length ≤ 400) (hi16 : i < 16) (hq : q ≤ Z.length) (HS : Hid (FillSt w wo b br bp t (x % 9) (y % 9) f s i 0))
    {Q0 : Exit → Act → World → Prop} {c3 c4 c5 c6 c10 c15 c16 c17 c18 c19 c20 c21 c22 c23 c24 c25 c26 c27 c28 c29 c30 c31 c32 c33 c34 c35 c36 c37 c38 c39 c40 c41 c42 c43 c44 c45 c46 c47 c48 c49 c50 c51 c52 c53 c54 c55 c56 c57 c58 c59 c60 c61 c62 c63 c64 c65 c66 c67 c68 c69 c70 c71 c72 c73 c74 c75 c76 c77 c78 c79 c80 c81 c82 c83 c84 c85 c86 c87 c88 c89 c90 c91 c92 c93 c94 c95 c96 c97 c98 c99 c100 c101 c102 c103 c104 c105 c106 c107 c108 c109 c110 c111 c112 c113 c114 c115 c116 c117 c118 c119 c120 c121 c122 c123 c124 c125 c126 c127 c128 c129 c130 c131 c132 c133 c134 c135 c136 c137 c138 c139 c140 c141 c142 c143 c144 c145 c146 c147 c148 c149 c150 c151 c152 c153 c154 c155 c156 c157 c158 c159 c160 c161 c162 c163 c164 c165 c166 c167 c168 c169 c170 c171 c172 c173 c174 c175 c176 c177 c178 c179 c180 c181 c182 c183 c184 c185 c186 c187 c188 c189 c190 c191 c192 c193 c194 c195 c196 c197 c198 c199 c200 c201 c202 c203 c204 c205 c206 c207 c208 c209 c210 c211 c212 c213 c214 c215 c216 c217 c218 c219 c220 c221 c222 c223 c224 c225 c226 c227 c228 c229 c230 c231 c232 c233 c234 c235 c236 c237 c238 c239 c240 c241 c242 c243 c244 c245 c246 c247 c248 c249 c250 c251 c252 : Value}
    (HEX : Hid (∀ (q : Nat) (f : Nat → Nat → Int) (s : MS) (w' : World), q ≤ Z.length → FillSt w w' b br bp t (x % 9) (y % 9) f s i 13 → ∀ u6 u15 u16 u56 u57 u58 u59 u60 u61 u62 u63 u64 u65 u66 u67 u68 u69 u70 u71 u72 u73 u74 u75 u76 u77 u78 u79 u80 u81 u82 u83 u84 u85 u86 u87 u88 u89 u90 u91 u92 u93 u94 u95 u96 u97 u98 u99 u100 u101 u102 u103 u104 u105 u106 u107 u108 u109 u110 u111 u112 u113 u114 u115 u116 u117 u118 u119 u120 u121 u122 u123 u124 u125 u126 u127 u128 u129 u130 u131 u132 u133 u134 u135 u136 u137 u138 u139 u140 u141 u142 u143 u144 u145 u146 u147 u148 u149 u150 u151 u152 u153 u154 u155 u156 u157 u158 u159 : Value, Q0 (.exit 2) ⟨List.toArray ((.int .u8 x) :: (.int .u8 y) :: (.slice a Z.length cap) :: c3 :: c4 :: c5 :: u6 :: (.int .i64 (x % 9)) :: (.int .i64 (y % 9)) :: (.pointer (some ⟨b, 0, none⟩)) :: c10 :: (.pointer (some ⟨t, 0, none⟩)) :: (.int .i64 q) :: (.int .i64 i) :: (.int .i64 13) :: u15 :: u16 :: c17 :: c18 :: c19 :: c20 :: c21 :: c22 :: c23 :: c24 :: c25 :: c26 :: c27 :: c28 :: c29 :: c30 :: c31 :: c32 :: c33 :: c34 :: c35 :: c36 :: c37 :: c38 :: c39 :: c40 :: c41 :: c42 :: c43 :: c44 :: c45 :: c46 :: c47 :: c48 :: c49 :: c50 :: c51 :: c52 :: c53 :: c54 :: c55 :: u56 :: u57 :: u58 :: u59 :: u60 :: u61 :: u62 :: u63 :: u64 :: u65 :: u66 :: u67 :: u68 :: u69 :: u70 :: u71 :: u72 :: u73 :: u74 :: u75 :: u76 :: u77 :: u78 :: u79 :: u80 :: u81 :: u82 :: u83 :: u84 :: u85 :: u86 :: u87 :: u88 :: u89 :: u90 :: u91 :: u92 :: u93 :: u94 :: u95 :: u96 :: u97 :: u98 :: u99 :: u100 :: u101 :: u102 :: u103 :: u104 :: u105 :: u106 :: u107 :: u108 :: u109 :: u110 :: u111 :: u112 :: u113 :: u114 :: u115 :: u116 :: u117 :: u118 :: u119 :: u120 :: u121 :: u122 :: u123 :: u124 :: u125 :: u126 :: u127 :: u128 :: u129 :: u130 :: u131 :: u132 :: u133 :: u134 :: u135 :: u136 :: u137 :: u138 :: u139 :: u140 :: u141 :: u142 :: u143 :: u144 :: u145 :: u146 :: u147 :: u148 :: u149 :: u150 :: u151 :: u152 :: u153 :: u154 :: u155 :: u156 :: u157 :: u158 :: u159 :: c160 :: c161 :: c162 :: c163 :: c164 :: c165 :: c166 :: c167 :: c168 :: c169 :: c170 :: c171 :: c172 :: c173 :: c174 :: c175 :: c176 :: c177 :: c178 :: c179 :: c180 :: c181 :: c182 :: c183 :: c184 :: c185 :: c186 :: c187 :: c188 :: c189 :: c190 :: c191 :: c192 :: c193 :: c194 :: c195 :: c196 :: c197 :: c198 :: c199 :: c200 :: c201 :: c202 :: c203 :: c204 :: c205 :: c206 :: c207 :: c208 :: c209 :: c210 :: c211 :: c212 :: c213 :: c214 :: c215 :: c216 :: c217 :: c218 :: c219 :: c220 :: c221 :: c222 :: c223 :: c224 :: c225 :: c226 :: c227 :: c228 :: c229 :: c230 :: c231 :: c232 :: c233 :: c234 :: c235 :: c236 :: c237 :: c238 :: c239 :: c240 :: c241 :: c242 :: c243 :: c244 :: c245 :: c246 :: c247 :: c248 :: c249 :: c250 :: c251 :: c252 :: []), []⟩ w')) :
    Code.wp Try.prog (Code.loop fillBody) Q0 ⟨List.toArray ((.int .u8 x) :: (.int .u8 y) :: (.slice a Z.length cap) :: c3 :: c4 :: c5 :: c6 :: (.int .i64 (x % 9)) :: (.int .i64 (y % 9)) :: (.pointer (some ⟨b, 0, none⟩)) :: c10 :: (.pointer (some ⟨t, 0, none⟩)) :: (.int .i64 q) :: (.int .i64 i) :: (.int .i64 0) :: c15 :: c16 :: c17 :: c18 :: c19 :: c20 :: c21 :: c22 :: c23 :: c24 :: c25 :: c26 :: c27 :: c28 :: c29 :: c30 :: c31 :: c32 :: c33 :: c34 :: c35 :: c36 :: c37 :: c38 :: c39 :: c40 :: c41 :: c42 :: c43 :: c44 :: c45 :: c46 :: c47 :: c48 :: c49 :: c50 :: c51 :: c52 :: c53 :: c54 :: c55 :: c56 :: c57 :: c58 :: c59 :: c60 :: c61 :: c62 :: c63 :: c64 :: c65 :: c66 :: c67 :: c68 :: c69 :: c70 :: c71 :: c72 :: c73 :: c74 :: c75 :: c76 :: c77 :: c78 :: c79 :: c80 :: c81 :: c82 :: c83 :: c84 :: c85 :: c86 :: c87 :: c88 :: c89 :: c90 :: c91 :: c92 :: c93 :: c94 :: c95 :: c96 :: c97 :: c98 :: c99 :: c100 :: c101 :: c102 :: c103 :: c104 :: c105 :: c106 :: c107 :: c108 :: c109 :: c110 :: c111 :: c112 :: c113 :: c114 :: c115 :: c116 :: c117 :: c118 :: c119 :: c120 :: c121 :: c122 :: c123 :: c124 :: c125 :: c126 :: c127 :: c128 :: c129 :: c130 :: c131 :: c132 :: c133 :: c134 :: c135 :: c136 :: c137 :: c138 :: c139 :: c140 :: c141 :: c142 :: c143 :: c144 :: c145 :: c146 :: c147 :: c148 :: c149 :: c150 :: c151 :: c152 :: c153 :: c154 :: c155 :: c156 :: c157 :: c158 :: c159 :: c160 :: c161 :: c162 :: c163 :: c164 :: c165 :: c166 :: c167 :: c168 :: c169 :: c170 :: c171 :: c172 :: c173 :: c174 :: c175 :: c176 :: c177 :: c178 :: c179 :: c180 :: c181 :: c182 :: c183 :: c184 :: c185 :: c186 :: c187 :: c188 :: c189 :: c190 :: c191 :: c192 :: c193 :: c194 :: c195 :: c196 :: c197 :: c198 :: c199 :: c200 :: c201 :: c202 :: c203 :: c204 :: c205 :: c206 :: c207 :: c208 :: c209 :: c210 :: c211 :: c212 :: c213 :: c214 :: c215 :: c216 :: c217 :: c218 :: c219 :: c220 :: c221 :: c222 :: c223 :: c224 :: c225 :: c226 :: c227 :: c228 :: c229 :: c230 :: c231 :: c232 :: c233 :: c234 :: c235 :: c236 :: c237 :: c238 :: c239 :: c240 :: c241 :: c242 :: c243 :: c244 :: c245 :: c246 :: c247 :: c248 :: c249 :: c250 :: c251 :: c252 :: []), []⟩ wo := by
  conv => arg 2; arg 1; whnf
  go_loopw [12, 14] (fun q k wr => ∃ (at' k' : Nat) (f : Nat → Nat → Int) (s : MS), at' ≤ Z.length ∧ q = .int .i64 at' ∧ k' ≤ 13 ∧ k = .int .i64 k' ∧ FillSt w wr b br bp t (x % 9) (y % 9) f s i k') (fun _ k _ => 13 - (intOf k).toNat)
  case atStart => exact ⟨q, 0, _, _, hq, rfl, by omega, rfl, HS.out⟩
  case round =>
    clear hq HS
    obtain ⟨q, k, f, s, hq, rfl, hk, rfl, hst⟩ := hrel
    by_cases hk13 : k < 13
    · have hc := hst.want.c i k hi16 hk13
      have hz := hst.want.z (i * 13 + k)
      have HS := Lib.hid (hst.put hi16 hk13 (-9))
      clear hst
      by_cases hi8 : i < 8
      · by_cases hir : (i : Int) < x % 9
        · by_cases hql : q < Z.length
          · obtain ⟨zv, hzv⟩ : ∃ zv, Z[q]? = some zv := ⟨_, List.getElem?_eq_getElem hql⟩
            obtain ⟨z1, z2, z3⟩ := (HZ.out.chg HS.out.g (fun h => by have := HZ.out.lt (by intro e; rw [e] at hql; simp at hql); omega)).c q zv hzv
            have ha := HA.out (by omega)
            subst ha
            by_cases hodd : zv % 2 = 1
            · have b96 : (zv % 2 == 1) = true := by simpa using hodd
              clear hodd
              go_wp2
              go_roundw
              case rel => exact ⟨q + 1, k + 1, _, _, by omega, by go_num, by omega, by go_num, HS.out.skip⟩
              case measure => simp [intOf]; omega
            · have b96 : (zv % 2 == 1) = false := by simpa using hodd
              clear hodd
              by_cases hm : (k : Int) + zv / 2 % 14 < 12
              · by_cases h128 : zv < 128
                · have e128 : zv / 128 = 0 := by omega
                  go_wp2_with fail
                  have HP := Lib.hid (HS.out.put hi16 hk13 ((k : Int) + zv / 2 % 14))
                  have HR := Lib.hid (HS.out.rel.rule (v := (k : Int) + zv / 2 % 14) (u := 12) hi8 hk13 hir (by omega) ⟨by omega, by omega⟩)
                  have HF := Lib.hid (HS.out.fine (by omega) (by omega))
                  have HF2 : Hid (s.sayR i k ((k : Int) + zv / 2 % 14)).Fine := Lib.hid (by have hff := HF.out; have h1 := HR.out.2.2.2.2.2.2; have hsz := HS.out.sz; exact ⟨by rw [h1.2.1]; exact hff.a0, by rw [h1.2.1]; exact hff.a1, by rw [h1.2.2]; exact hff.k0, by rw [h1.2.2]; exact hff.k1, by omega⟩)
                  refine (sayR_at b br bp s i k ((k : Int) + zv / 2 % 14) _ ⟨by omega, by omega⟩ ⟨by omega, by omega⟩ ⟨by omega, by omega⟩ HP.out.m HF.out).mono ?_
                  rintro e w3 ⟨rfl, hm3, hc3⟩
                  rw [HR.out.1, show errOf true = .int .i64 0 from rfl]
                  have HM3 := Lib.hid hm3
                  have HC3 := Lib.hid hc3
                  clear hm3 hc3
                  go_wp2_with fail
                  refine (sayR_at b br bp _ i k 12 w3 ⟨by omega, by omega⟩ ⟨by omega, by omega⟩ ⟨by omega, by omega⟩ HM3.out HF2.out).mono ?_
                  rintro e w4 ⟨rfl, hm4, hc4⟩
                  rw [HR.out.2.1, show errOf true = .int .i64 0 from rfl]
                  have HX := Lib.hid (HP.out.said hm4 ((HC3.out.trans hc4).mono (fun j _ e => .inl e)) HR.out.2.2.1 HR.out.2.2.2.1 HR.out.2.2.2.2.1 HR.out.2.2.2.2.2.1)
                  clear hm4 hc4 HM3 HC3 HR HP HF HF2
                  go_wp2
                  go_roundw
                  case rel => exact ⟨q + 1, k + 1, _, _, by omega, by go_num, by omega, by go_num, HX.out⟩
                  case measure => simp [intOf]; omega
                · have e128 : zv / 128 = 1 := by omega
                  go_wp2_with fail
                  have HP := Lib.hid (HS.out.put hi16 hk13 ((k : Int) + zv / 2 % 14 - ((k : Int) + zv / 2 % 14 + 1)))
                  have HR := Lib.hid (HS.out.rel.rule (v := (k : Int) + zv / 2 % 14 - ((k : Int) + zv / 2 % 14 + 1)) (u := 12) hi8 hk13 hir (by omega) ⟨by omega, by omega⟩)
                  have HF := Lib.hid (HS.out.fine (by omega) (by omega))
                  have HF2 : Hid (s.sayR i k ((k : Int) + zv / 2 % 14 - ((k : Int) + zv / 2 % 14 + 1))).Fine := Lib.hid (by have hff := HF.out; have h1 := HR.out.2.2.2.2.2.2; have hsz := HS.out.sz; exact ⟨by rw [h1.2.1]; exact hff.a0, by rw [h1.2.1]; exact hff.a1, by rw [h1.2.2]; exact hff.k0, by rw [h1.2.2]; exact hff.k1, by omega⟩)
                  refine (sayR_at b br bp s i k ((k : Int) + zv / 2 % 14 - ((k : Int) + zv / 2 % 14 + 1)) _ ⟨by omega, by omega⟩ ⟨by omega, by omega⟩ ⟨by omega, by omega⟩ HP.out.m HF.out).mono ?_
                  rintro e w3 ⟨rfl, hm3, hc3⟩
                  rw [HR.out.1, show errOf true = .int .i64 0 from rfl]
                  have HM3 := Lib.hid hm3
                  have HC3 := Lib.hid hc3
                  clear hm3 hc3
                  go_wp2_with fail
                  refine (sayR_at b br bp _ i k 12 w3 ⟨by omega, by omega⟩ ⟨by omega, by omega⟩ ⟨by omega, by omega⟩ HM3.out HF2.out).mono ?_
                  rintro e w4 ⟨rfl, hm4, hc4⟩
                  rw [HR.out.2.1, show errOf true = .int .i64 0 from rfl]
                  have HX := Lib.hid (HP.out.said hm4 ((HC3.out.trans hc4).mono (fun j _ e => .inl e)) HR.out.2.2.1 HR.out.2.2.2.1 HR.out.2.2.2.2.1 HR.out.2.2.2.2.2.1)
                  clear hm4 hc4 HM3 HC3 HR HP HF HF2
                  go_wp2
                  go_roundw
                  case rel => exact ⟨q + 1, k + 1, _, _, by omega, by go_num, by omega, by go_num, HX.out⟩
                  case measure => simp [intOf]; omega
              · by_cases h128 : zv < 128
                · have e128 : zv / 128 = 0 := by omega
                  go_wp2_with fail
                  have HP := Lib.hid (HS.out.put hi16 hk13 ((12 : Int)))
                  have HR := Lib.hid (HS.out.rel.rule (v := (12 : Int)) (u := 12) hi8 hk13 hir (by omega) ⟨by omega, by omega⟩)
                  have HF := Lib.hid (HS.out.fine (by omega) (by omega))
                  have HF2 : Hid (s.sayR i k ((12 : Int))).Fine := Lib.hid (by have hff := HF.out; have h1 := HR.out.2.2.2.2.2.2; have hsz := HS.out.sz; exact ⟨by rw [h1.2.1]; exact hff.a0, by rw [h1.2.1]; exact hff.a1, by rw [h1.2.2]; exact hff.k0, by rw [h1.2.2]; exact hff.k1, by omega⟩)
                  refine (sayR_at b br bp s i k ((12 : Int)) _ ⟨by omega, by omega⟩ ⟨by omega, by omega⟩ ⟨by omega, by omega⟩ HP.out.m HF.out).mono ?_
                  rintro e w3 ⟨rfl, hm3, hc3⟩
                  rw [HR.out.1, show errOf true = .int .i64 0 from rfl]
                  have HM3 := Lib.hid hm3
                  have HC3 := Lib.hid hc3
                  clear hm3 hc3
                  go_wp2_with fail
                  refine (sayR_at b br bp _ i k 12 w3 ⟨by omega, by omega⟩ ⟨by omega, by omega⟩ ⟨by omega, by omega⟩ HM3.out HF2.out).mono ?_
                  rintro e w4 ⟨rfl, hm4, hc4⟩
                  rw [HR.out.2.1, show errOf true = .int .i64 0 from rfl]
                  have HX := Lib.hid (HP.out.said hm4 ((HC3.out.trans hc4).mono (fun j _ e => .inl e)) HR.out.2.2.1 HR.out.2.2.2.1 HR.out.2.2.2.2.1 HR.out.2.2.2.2.2.1)
                  clear hm4 hc4 HM3 HC3 HR HP HF HF2
                  go_wp2
                  go_roundw
                  case rel => exact ⟨q + 1, k + 1, _, _, by omega, by go_num, by omega, by go_num, HX.out⟩
                  case measure => simp [intOf]; omega
                · have e128 : zv / 128 = 1 := by omega
                  go_wp2_with fail
                  have HP := Lib.hid (HS.out.put hi16 hk13 ((-1 : Int)))
                  have HR := Lib.hid (HS.out.rel.rule (v := (-1 : Int)) (u := 12) hi8 hk13 hir (by omega) ⟨by omega, by omega⟩)
                  have HF := Lib.hid (HS.out.fine (by omega) (by omega))
                  have HF2 : Hid (s.sayR i k ((-1 : Int))).Fine := Lib.hid (by have hff := HF.out; have h1 := HR.out.2.2.2.2.2.2; have hsz := HS.out.sz; exact ⟨by rw [h1.2.1]; exact hff.a0, by rw [h1.2.1]; exact hff.a1, by rw [h1.2.2]; exact hff.k0, by rw [h1.2.2]; exact hff.k1, by omega⟩)
                  refine (sayR_at b br bp s i k ((-1 : Int)) _ ⟨by omega, by omega⟩ ⟨by omega, by omega⟩ ⟨by omega, by omega⟩ HP.out.m HF.out).mono ?_
                  rintro e w3 ⟨rfl, hm3, hc3⟩
                  rw [HR.out.1, show errOf true = .int .i64 0 from rfl]
                  have HM3 := Lib.hid hm3
                  have HC3 := Lib.hid hc3
                  clear hm3 hc3
                  go_wp2_with fail
                  refine (sayR_at b br bp _ i k 12 w3 ⟨by omega, by omega⟩ ⟨by omega, by omega⟩ ⟨by omega, by omega⟩ HM3.out HF2.out).mono ?_
                  rintro e w4 ⟨rfl, hm4, hc4⟩
                  rw [HR.out.2.1, show errOf true = .int .i64 0 from rfl]
                  have HX := Lib.hid (HP.out.said hm4 ((HC3.out.trans hc4).mono (fun j _ e => .inl e)) HR.out.2.2.1 HR.out.2.2.2.1 HR.out.2.2.2.2.1 HR.out.2.2.2.2.2.1)
                  clear hm4 hc4 HM3 HC3 HR HP HF HF2
                  go_wp2
                  go_roundw
                  case rel => exact ⟨q + 1, k + 1, _, _, by omega, by go_num, by omega, by go_num, HX.out⟩
                  case measure => simp [intOf]; omega
          · go_wp2
            go_roundw
            case rel => exact ⟨q, k + 1, _, _, hq, rfl, by omega, by go_num, HS.out.skip⟩
            case measure => simp [intOf]; omega
        · go_wp2
          go_roundw
          case rel => exact ⟨q, k + 1, _, _, hq, rfl, by omega, by go_num, HS.out.skip⟩
          case measure => simp [intOf]; omega
      · by_cases hip : (i : Int) - 8 < y % 9
        · by_cases hql : q < Z.length
          · obtain ⟨zv, hzv⟩ : ∃ zv, Z[q]? = some zv := ⟨_, List.getElem?_eq_getElem hql⟩
            obtain ⟨z1, z2, z3⟩ := (HZ.out.chg HS.out.g (fun h => by have := HZ.out.lt (by intro e; rw [e] at hql; simp at hql); omega)).c q zv hzv
            have ha := HA.out (by omega)
            subst ha
            by_cases hodd : zv % 2 = 1
            · have b96 : (zv % 2 == 1) = true := by simpa using hodd
              clear hodd
              go_wp2
              go_roundw
              case rel => exact ⟨q + 1, k + 1, _, _, by omega, by go_num, by omega, by go_num, HS.out.skip⟩
              case measure => simp [intOf]; omega
            · have b96 : (zv % 2 == 1) = false := by simpa using hodd
              clear hodd
              go_wp2_with fail
              have e8 : ((i - 8 : Nat) : Int) = (i : Int) - 8 := by omega
              have HP := Lib.hid (HS.out.put hi16 hk13 (zv / 2 % 33 - 1))
              have HR := Lib.hid (HS.out.rel.pick (v := zv / 2 % 33 - 1) (u := 3) (by omega) hi16 hk13 (by rw [e8]; exact hip) ⟨by omega, by omega⟩ ⟨by omega, by omega⟩)
              rw [e8] at HR
              have HF := Lib.hid (HS.out.fine (by omega) (by omega))
              have HF2 : Hid (s.sayP ((i : Int) - 8) k (zv / 2 % 33 - 1)).Fine := Lib.hid (by have hff := HF.out; have h1 := HR.out.2.2.2.2.2.2; have hsz := HS.out.sz; exact ⟨by rw [h1.2.1]; exact hff.a0, by rw [h1.2.1]; exact hff.a1, by rw [h1.2.2]; exact hff.k0, by rw [h1.2.2]; exact hff.k1, by omega⟩)
              clear e8
              refine (sayP_at b br bp s ((i : Int) - 8) k (zv / 2 % 33 - 1) _ ⟨by omega, by omega⟩ ⟨by omega, by omega⟩ ⟨by omega, by omega⟩ HP.out.m HF.out).mono ?_
              rintro e w3 ⟨rfl, hm3, hc3⟩
              rw [HR.out.1, show errOf true = .int .i64 0 from rfl]
              have HM3 := Lib.hid hm3
              have HC3 := Lib.hid hc3
              clear hm3 hc3
              go_wp2_with fail
              refine (sayP_at b br bp _ ((i : Int) - 8) k 3 w3 ⟨by omega, by omega⟩ ⟨by omega, by omega⟩ ⟨by omega, by omega⟩ HM3.out HF2.out).mono ?_
              rintro e w4 ⟨rfl, hm4, hc4⟩
              rw [HR.out.2.1, show errOf true = .int .i64 0 from rfl]
              have HX := Lib.hid (HP.out.said hm4 ((HC3.out.trans hc4).mono (fun j _ e => .inr e)) HR.out.2.2.1 HR.out.2.2.2.1 HR.out.2.2.2.2.1 HR.out.2.2.2.2.2.1)
              clear hm4 hc4 HM3 HC3 HR HP HF HF2
              go_wp2
              go_roundw
              case rel => exact ⟨q + 1, k + 1, _, _, by omega, by go_num, by omega, by go_num, HX.out⟩
              case measure => simp [intOf]; omega
          · go_wp2
            go_roundw
            case rel => exact ⟨q, k + 1, _, _, hq, rfl, by omega, by go_num, HS.out.skip⟩
            case measure => simp [intOf]; omega
        · go_wp2
          go_roundw
          case rel => exact ⟨q, k + 1, _, _, hq, rfl, by omega, by go_num, HS.out.skip⟩
          case measure => simp [intOf]; omega
    · obtain rfl : k = 13 := by omega
      have HX := Lib.hid hst
      clear hst
      go_wp2_with fail
      exact HEX.out q f s wr hq HX.out _ _ _ _ _ _ _ _ _ _ _ _ _ _ _ _ _ _ _ _ _ _ _ _ _ _ _ _ _ _ _ _ _ _ _ _ _ _ _ _ _ _ _ _ _ _ _ _ _ _ _ _ _ _ _ _ _ _ _ _ _ _ _ _ _ _ _ _ _ _ _ _ _ _ _ _ _ _ _ _ _ _ _ _ _ _ _ _ _ _ _ _ _ _ _ _ _ _ _ _ _ _ _ _ _ _ _
end Go.Proofs.Ytoicneeecokglaa
