/- Bytes, and their sum: Seal. -/
import Derived.Test.YtnfniilimgfjoaaConcat
namespace Go.Proofs.Ytnfniilimgfjoaa
open Go.RowKit

theorem ofI_range (Z : List Int) : 0 ≤ ofI Z ∧ ofI Z ≤ 4294967295 := bounds_u32 (wf_bits BinOp.xor IntKind.u32 _ _)
def sealL (Z : List Int) : List Int := Z ++ fourL (ofI Z)
theorem sealL_length (Z : List Int) : (sealL Z).length = Z.length + 4 := by simp [sealL, fourL]
theorem two_cells (w : World) (u v : Value) (e : TypeId) : (w.alloc (.cells #[u, v] e)).cell? ⟨w.heap.size, 0, none⟩ = some u ∧ (w.alloc (.cells #[u, v] e)).cell? ⟨w.heap.size, 1, none⟩ = some v := by
  constructor <;> · rw [World.cell?_alloc_new]; rfl

set_option maxRecDepth 100000 in
set_option maxHeartbeats 2000000 in
theorem seal_any (b : Nat) (Z : List Int) (a : Option Addr) (g o c : Nat) (w : World) (hs : SumsSt w b) (hz : BytesAt w g o Z) (hgb : Z ≠ [] → g ≠ b) (ha : 0 < Z.length → a = some ⟨g, o, none⟩) (hl : Z.length ≤ 10000) :
    Calls Try.prog 18 #[.pointer (some ⟨b, 0, none⟩), .slice a Z.length c] w fun e w' => ∃ h, e = .returned (.slice (some ⟨h, 0, none⟩) (sealL Z).length (sealL Z).length) ∧ w.heap.size ≤ h ∧ Row w' h (sealL Z) ∧ SumsSt w' b ∧ Chg (· = b) w w' := by
  have HOF := Lib.hid (of_any b Z a g o c w hs hz hgb ha (by omega))
  have HZ := Lib.hid hz
  have HA := Lib.hid ha
  have HG := Lib.hid hgb
  have HL := Lib.hid hs.lt
  obtain ⟨r0, r1⟩ := ofI_range Z
  obtain ⟨N, hN⟩ : ∃ N, ofI Z = N := ⟨_, rfl⟩
  rw [hN] at HOF r0 r1
  have HS : Hid (sealL Z = Z ++ fourL N) := Lib.hid (by rw [sealL, hN])
  clear hs hz hgb ha hN
  go_enter Try.func18, Try.ntmps18
  go_wp2_with fail
  refine HOF.out.mono ?_
  rintro e w1 ⟨rfl, hs1, hc1⟩
  have HS1 := Lib.hid hs1
  have HC1 := Lib.hid hc1
  clear hs1 hc1 HOF
  go_wp2_with fail
  refine (four_any N w1 r0 r1).mono ?_
  rintro e w2 ⟨h4, rfl, hh4, hr4, hc2⟩
  have HR4 := Lib.hid hr4
  have HC2 := Lib.hid hc2
  clear hr4 hc2
  go_wp2_with fail
  have HQ := Lib.hid (two_cells w2 (.slice a Z.length c) (.slice (some ⟨h4, 0, none⟩) 4 4) 22)
  have HC3 := Lib.hid ((Chg.refl (fun _ => False) w2).alloc (.cells #[.slice a Z.length c, .slice (some ⟨h4, 0, none⟩) 4 4] 22))
  refine (concat_any Z (fourL N) a g o c h4 w2.heap.size _ (((HZ.out.chg HC1.out HG.out).chg HC2.out (fun _ h => h)).chg HC3.out (fun _ h => h)) HA.out ((HR4.out.chg HC3.out (fun h => h)).bytes (List.prefix_refl _)) (by simp [fourL]) (by omega) (by simp [fourL]) HQ.out.1 HQ.out.2).mono ?_
  rintro e w3 ⟨v3, rfl, ho3, hc3⟩
  obtain ⟨g3, C3, e3, hg3, hR3, hp3, hm3⟩ := ho3.some (by simp [fourL])
  have HC4 := Lib.hid (HC2.out.trans (HC3.out.trans hc3))
  obtain ⟨PL, hPL⟩ : ∃ PL, (Z ++ fourL N).length = PL := ⟨_, rfl⟩
  have HPL : Hid (PL ≤ C3.length) := Lib.hid (by rw [← hPL]; exact hp3.length_le)
  have HP : Hid (PL = (sealL Z).length) := Lib.hid (by rw [HS.out, hPL])
  rw [hPL] at e3
  subst e3
  have HR3 : Hid (Row w3 g3 (sealL Z)) := Lib.hid (by
    rw [HS.out]
    exact ⟨fun k x hk => by have := (hR3.bytes hp3).c k x hk; rw [Nat.zero_add] at this; exact this.1, hR3.z, hR3.lt, fun x hx => hR3.byte x (hp3.subset hx)⟩)
  have hg3' : w.heap.size ≤ g3 := by have h1 := HC1.out.size; have h2 := HC2.out.size; have h3 := HC3.out.size; omega
  clear hR3 hp3 ho3 hc3 hg3 hPL
  go_wp2_with fail
  refine (clip_any w3 g3 _ _ HPL.out).mono ?_
  rintro e w4 ⟨rfl, rfl⟩
  have HF : Hid (SumsSt w4 b ∧ Chg (· = b) w w4) := Lib.hid ⟨HS1.out.chg HC4.out (fun h => h), HC1.out.trans HC4.out.any⟩
  go_wp2
  go_ret
  exact ⟨g3, by rw [← HP.out]; rfl, hg3', HR3.out, HF.out.1, HF.out.2⟩
end Go.Proofs.Ytnfniilimgfjoaa
