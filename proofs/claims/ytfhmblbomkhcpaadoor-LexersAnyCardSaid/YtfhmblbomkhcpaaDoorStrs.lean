/- Bytes as a string. -/
import Derived.Test.YtfhmblbomkhcpaaDoorBytes
import Derived.Laws.BytesArg
import Derived.Lib.SlBytesConst
namespace Go.Proofs.YtfhmblbomkhcpaaDoor
open Go.RowKit

theorem conv8 {w : World} {g o : Nat} {Z : List Int} {a : Option Addr} (c : Nat) (h : BytesAt w g o Z) (ha : 0 < Z.length → a = some ⟨g, o, none⟩) : (convert 109 9 (.slice a Z.length c)).run Tryd.prog w = .ok (.string (strOfNums Z)) w := by
  rcases Nat.eq_zero_or_pos Z.length with h0 | h0
  · have hZ := List.length_eq_zero_iff.1 h0
    subst hZ
    cases a with
    | none => exact run_convert_bytes_nil w 109 5 Tryd.underlying109 Tryd.underlying5 0 c 9 Tryd.underlying9
    | some ad =>
      show (convert 109 9 (.slice (some ad) 0 c)).run Tryd.prog w = _
      rw [run_convert_bytes_string w 109 9 5 _ 0 c Tryd.underlying109 Tryd.underlying5 Tryd.underlying9, run_bytesToString w _ 0 c [] (run_loadCells_list (P := Tryd.prog) w ad [] (fun j v hj => by simp at hj))]
      rfl
  · obtain rfl := ha h0
    refine run_convert_bytes_arg w 109 5 Tryd.underlying109 Tryd.underlying5 g o Z.length c Z rfl (fun i hi => ?_) 9 Tryd.underlying9
    obtain ⟨x, hx, hc, _⟩ := h.get hi
    rw [hc, List.getD_eq_getElem?_getD, hx]
    rfl

/-- The bytes of a constant string. -/
theorem litMark (w : World) (Y : List Int) (e : TypeId) (fr : Nat × Nat) (hY : ∀ a ∈ Y, Byte a) : BytesAt (w.alloc (.cells (bytesV Y).toArray e fr)) w.heap.size 0 Y :=
  ⟨fun k a hk => ⟨by rw [Nat.zero_add, World.cell?_alloc_mark]; simp [bytesV, hk], hY a (List.mem_of_getElem? hk)⟩, fun _ => by simp⟩
theorem str_inj {X Y : List Int} (hX : ∀ a ∈ X, Byte a) (hY : ∀ a ∈ Y, Byte a) (h : strOfNums X = strOfNums Y) : X = Y := by
  have h1 : X.map (fun n => UInt8.ofNat n.toNat) = Y.map (fun n => UInt8.ofNat n.toNat) := by
    have := congrArg (fun s : ByteArray => s.data.toList) h
    simpa [strOfNums] using this
  clear h
  induction X generalizing Y with
  | nil => cases Y with
    | nil => rfl
    | cons y Y => simp at h1
  | cons x X ih => cases Y with
    | nil => simp at h1
    | cons y Y =>
      simp only [List.map_cons, List.cons.injEq] at h1
      have hx := hX x (by simp)
      have hy := hY y (by simp)
      have h2 := congrArg UInt8.toNat h1.1
      simp only [UInt8.toNat_ofNat'] at h2
      rw [ih (fun a ha => hX a (by simp [ha])) (fun a ha => hY a (by simp [ha])) h1.2, show x = y by omega]
end Go.Proofs.YtfhmblbomkhcpaaDoor
