/- The sum of bytes. -/
import Derived.Test.YtnfniilimgfjoaaSumsB
import Derived.OpenShut
namespace Go.Proofs.Ytnfniilimgfjoaa
open Go.RowKit

def zerosS : Array Value := #[.int .u32 0, .int .i32 0, .int .u32 0] ++ Array.replicate 256 (.int .u32 0)
theorem zeroSums (w : World) : (zeroValue 51).run Try.prog w = .ok (.agg zerosS) w := by kernel_rfl
theorem SumsAt.made (w : World) (e : TypeId) : SumsAt (w.alloc (.cells zerosS e)) w.heap.size 0 0 (fun _ => 0) := by
  refine ⟨by rw [World.cell?_alloc_new]; simp [zerosS], by rw [World.cell?_alloc_new]; simp [zerosS], fun i hi => ?_, fun j => World.frozen?_alloc_new _ _ _ _⟩
  rw [World.cell?_alloc_new, zerosS, Array.getElem?_append_right (by simp)]
  simp [hi]

/-- One byte more. -/
def ofStep (y c : Int) : Int := bits BinOp.xor IntKind.u32 (y / 256) (tabI (bits BinOp.xor IntKind.u8 (y % 256) c).toNat)
def ofFold (Z : List Int) : Int := Z.foldl ofStep 4294967295
def ofI (Z : List Int) : Int := bits BinOp.xor IntKind.u32 IntKind.u32.max (ofFold Z)

set_option maxRecDepth 100000 in
set_option maxHeartbeats 2000000 in
/-- By sums that are not there. -/
theorem of_nil (Z : List Int) (a : Option Addr) (g o c : Nat) (w : World) (hz : BytesAt w g o Z) (ha : 0 < Z.length → a = some ⟨g, o, none⟩) (hl : Z.length ≤ 1000000000) :
    Calls Try.prog 21 #[.pointer none, .slice a Z.length c] w fun e w' => e = .returned (.int .u32 (ofI Z)) ∧ Chg (fun _ => False) w w' := by
  have HZ := Lib.hid hz
  have HA := Lib.hid ha
  have hzs := zeroSums
  have HS := Lib.hid (SumsAt.made w 51)
  have HC := Lib.hid ((Chg.refl (fun _ => False) w).alloc (.cells zerosS 51))
  clear hz ha
  go_enter Try.func21, Try.ntmps21
  go_wp2_with fail
  refine (do_first w.heap.size (fun _ => 0) _ HS.out).mono ?_
  rintro e w1 ⟨rfl, h1, hc1⟩
  have H1 := Lib.hid h1
  have HC1 := Lib.hid (HC.out.any.trans (hc1.mono (T := fun k => w.heap.size ≤ k) (fun k _ e => by omega)))
  clear h1 hc1 HS HC hzs
  go_wp2
  go_loopw [5, 20] (fun n i wr => ∃ (k : Nat) (y : Int), k ≤ Z.length ∧ i = .int .i64 k ∧ n = .int .u32 y ∧ y = ofFold (Z.take k) ∧ SumsAt wr w.heap.size 1 0 tabI ∧ Chg (fun k => w.heap.size ≤ k) w wr) (fun _ i _ => Z.length - (intOf i).toNat)
  case atStart => exact ⟨0, _, by omega, rfl, rfl, rfl, H1.out, HC1.out⟩
  case round =>
    clear H1 HC1
    obtain ⟨k, y, hk, rfl, rfl, hy, h, hc⟩ := hrel
    have HY := Lib.hid hy
    have H := Lib.hid h
    have HC := Lib.hid hc
    clear hy h hc
    by_cases hkl : k < Z.length
    · have b21 : decide ((k : Int) < (Z.length : Int)) = true := by simp; omega
      obtain ⟨z, hz, c1, z0, z1⟩ := (HZ.out.chg HC.out.fresh (fun _ h => h)).get hkl
      have e1 := HA.out (by omega)
      subst e1
      obtain ⟨x, hx, hx2⟩ : ∃ x : Nat, bits BinOp.xor IntKind.u8 (y % 256) z = (x : Int) ∧ x < 256 := by
        have h1 := bounds_u8 (wf_bits BinOp.xor IntKind.u8 (y % 256) z)
        exact ⟨(bits BinOp.xor IntKind.u8 (y % 256) z).toNat, by omega, by omega⟩
      have c2 := H.out.tab x hx2
      have HN : Hid (bits BinOp.xor IntKind.u32 (y / 256) (tabI x) = ofFold (Z.take (k + 1))) := Lib.hid (by
        rw [List.take_add_one, hz]
        show _ = List.foldl ofStep 4294967295 (Z.take k ++ [z])
        rw [List.foldl_append]
        show _ = ofStep (ofFold (Z.take k)) z
        rw [← HY.out]
        unfold ofStep
        rw [hx]
        rfl)
      clear hz HY
      go_wp2
      go_roundw
      case rel => first | exact ⟨k + 1, _, by omega, by go_num, rfl, HN.out, H.out, HC.out⟩ | ((repeat apply Exists.intro); exact ⟨⟨k + 1, _, by omega, rfl, rfl, HN.out, H.out, HC.out⟩, rfl⟩)
      case measure => simp [intOf]; omega
    · obtain rfl : k = Z.length := by omega
      have HF : Hid (y = ofFold Z) := Lib.hid (by rw [HY.out, List.take_length])
      clear HY H
      go_wp2
      go_ret
      exact ⟨by unfold ofI; rw [← HF.out]; rfl, HC.out.fresh⟩
theorem of_nine : ofI [49, 50, 51, 52, 53, 54, 55, 56, 57] = 3421780262 := by kernel_rfl
theorem of_none : ofI [] = 0 := by kernel_rfl
end Go.Proofs.Ytnfniilimgfjoaa
