/- A rune's bytes, the rune at a place: the document's way. -/
import Derived.Test.YtfhmblbomkhcpaaDoorTabP
import Derived.Test.YtfhmblbomkhcpaaDoorStrs
import Derived.Test.YtfhmblbomkhcpaaDoorLin
import Derived.IntWalk
namespace Go.Proofs.YtfhmblbomkhcpaaDoor
open Go.RowKit

/-- Is it a rune's number? -/
def isR (n : Nat) : Bool := decide (n < 55296) || (decide (57344 ≤ n) && decide (n ≤ 1114111))
theorem is_any (n : Nat) (w : World) : Calls Tryd.prog 65 #[.int .i32 n] w fun e w' => e = .returned (.bool (isR n)) ∧ w = w' := by
  have d0 : decide (0 ≤ (n : Int)) = true := by simp
  by_cases h1 : n < 55296
  · have HF : Hid (isR n = true) := Lib.hid (by simp [isR, h1])
    have d1 : decide ((n : Int) < 55296) = true := by simp; omega
    go_enter Tryd.func65, Tryd.ntmps65
    go_wp2
    go_ret
    exact ⟨by rw [HF.out]; rfl, rfl⟩
  · have d1 : decide ((n : Int) < 55296) = false := by simp; omega
    by_cases h2 : 57344 ≤ n
    · have d2 : decide ((57344 : Int) ≤ n) = true := by simp; omega
      by_cases h3 : n ≤ 1114111
      · have d3 : decide ((n : Int) ≤ 1114111) = true := by simp; omega
        have HF : Hid (isR n = true) := Lib.hid (by simp [isR, h2, h3])
        go_enter Tryd.func65, Tryd.ntmps65
        go_wp2
        go_ret
        exact ⟨by rw [HF.out]; rfl, rfl⟩
      · have d3 : decide ((n : Int) ≤ 1114111) = false := by simp; omega
        have HF : Hid (isR n = false) := Lib.hid (by simp [isR, h1, h3])
        go_enter Tryd.func65, Tryd.ntmps65
        go_wp2
        go_ret
        exact ⟨by rw [HF.out]; rfl, rfl⟩
    · have d2 : decide ((57344 : Int) ≤ n) = false := by simp; omega
      have HF : Hid (isR n = false) := Lib.hid (by simp [isR, h1, h2])
      go_enter Tryd.func65, Tryd.ntmps65
      go_wp2
      go_ret
      exact ⟨by rw [HF.out]; rfl, rfl⟩

set_option maxRecDepth 100000 in
theorem encode_bad (n : Nat) (w : World) (h : isR n = false) : Calls Tryd.prog 57 #[.int .i32 n] w fun e w' => e = .returned (.string (encS n)) ∧ Chg (fun _ => False) w w' := by
  have HF : Hid (encS n = ⟨#[]⟩) := Lib.hid (by
    unfold encS encN
    unfold isR at h
    simp at h
    rw [if_pos (by omega)]
    rfl)
  have HI := Lib.hid h
  clear h
  go_enter Tryd.func57, Tryd.ntmps57
  go_wp2_with fail
  refine (is_any n _).mono ?_
  rintro e w2 ⟨rfl, rfl⟩
  rw [HI.out]
  go_wp2
  go_ret
  exact ⟨by rw [HF.out]; rfl, Chg.refl _ _⟩

theorem conv_lit (w : World) (Y : List Int) (hY : ∀ a ∈ Y, Byte a) : (convert 109 9 (.slice (some ⟨w.heap.size, 0, none⟩) Y.length Y.length)).run Tryd.prog (w.alloc (.cells (bytesV Y).toArray 5)) = .ok (.string (strOfNums Y)) (w.alloc (.cells (bytesV Y).toArray 5)) :=
  conv8 Y.length (g := w.heap.size) (o := 0) ((Row.alloc w Y 5 hY).bytes (List.prefix_refl _)) (fun _ => rfl)
theorem strOf_encS {n : Nat} {Y : List Int} (h : Y.map Int.toNat = encN n) : strOfNums Y = encS n := by
  unfold encS strOfNums
  rw [← h, List.map_map]
  rfl

/-- The bytes as the text writes them. -/
def litE (n : Nat) : List Int :=
  if n < 128 then [(n : Int)] else if n < 2048 then [192 + (n : Int) / 64, 128 + (n : Int) % 64]
  else if n < 65536 then [224 + (n : Int) / 4096, 128 + (n : Int) / 64 % 64, 128 + (n : Int) % 64] else [240 + (n : Int) / 262144, 128 + (n : Int) / 4096 % 64, 128 + (n : Int) / 64 % 64, 128 + (n : Int) % 64]
theorem litE_is_1 {n : Nat} (_ : 0 ≤ n) (h : n < 128) : litE n = [(n : Int)] := by unfold litE; rw [if_pos h]
theorem litE_is_2 {n : Nat} (h0 : 128 ≤ n) (h : n < 2048) : litE n = [192 + (n : Int) / 64, 128 + (n : Int) % 64] := by unfold litE; rw [if_neg (by omega), if_pos h]
theorem litE_is_3 {n : Nat} (h0 : 2048 ≤ n) (h : n < 65536) : litE n = [224 + (n : Int) / 4096, 128 + (n : Int) / 64 % 64, 128 + (n : Int) % 64] := by unfold litE; rw [if_neg (by omega), if_neg (by omega), if_pos h]
theorem litE_is_4 {n : Nat} (h0 : 65536 ≤ n) (_ : n < 2147483648) : litE n = [240 + (n : Int) / 262144, 128 + (n : Int) / 4096 % 64, 128 + (n : Int) / 64 % 64, 128 + (n : Int) % 64] := by unfold litE; rw [if_neg (by omega), if_neg (by omega), if_neg (by omega)]
theorem litE_1 {n : Nat} (hlo : 0 ≤ n) (hhi : n < 128) (_h2 : n ≤ 1114111) (hr : ¬ (55296 ≤ n ∧ (n < 57344 ∨ 1114111 < n))) : (litE n).map Int.toNat = encN n ∧ (litE n).length = 1 ∧ ∀ a ∈ litE n, Byte a := by
  rw [litE_is_1 hlo hhi]
  refine ⟨?_, rfl, ?_⟩
  · unfold encN
    rw [if_neg hr]
    repeat' split
    all_goals first
      | (exfalso; omega)
      | (simp only [List.map_cons, List.map_nil, List.cons.injEq, and_true]; omega)
  · intro a ha
    simp only [List.mem_cons, List.not_mem_nil, or_false] at ha
    unfold Byte
    omega
theorem litE_2 {n : Nat} (hlo : 128 ≤ n) (hhi : n < 2048) (_h2 : n ≤ 1114111) (hr : ¬ (55296 ≤ n ∧ (n < 57344 ∨ 1114111 < n))) : (litE n).map Int.toNat = encN n ∧ (litE n).length = 2 ∧ ∀ a ∈ litE n, Byte a := by
  rw [litE_is_2 hlo hhi]
  refine ⟨?_, rfl, ?_⟩
  · unfold encN
    rw [if_neg hr]
    repeat' split
    all_goals first
      | (exfalso; omega)
      | (simp only [List.map_cons, List.map_nil, List.cons.injEq, and_true]; omega)
  · intro a ha
    simp only [List.mem_cons, List.not_mem_nil, or_false] at ha
    unfold Byte
    omega
theorem litE_3 {n : Nat} (hlo : 2048 ≤ n) (hhi : n < 65536) (_h2 : n ≤ 1114111) (hr : ¬ (55296 ≤ n ∧ (n < 57344 ∨ 1114111 < n))) : (litE n).map Int.toNat = encN n ∧ (litE n).length = 3 ∧ ∀ a ∈ litE n, Byte a := by
  rw [litE_is_3 hlo hhi]
  refine ⟨?_, rfl, ?_⟩
  · unfold encN
    rw [if_neg hr]
    repeat' split
    all_goals first
      | (exfalso; omega)
      | (simp only [List.map_cons, List.map_nil, List.cons.injEq, and_true]; omega)
  · intro a ha
    simp only [List.mem_cons, List.not_mem_nil, or_false] at ha
    unfold Byte
    omega
theorem litE_4 {n : Nat} (hlo : 65536 ≤ n) (hhi : n < 2147483648) (_h2 : n ≤ 1114111) (hr : ¬ (55296 ≤ n ∧ (n < 57344 ∨ 1114111 < n))) : (litE n).map Int.toNat = encN n ∧ (litE n).length = 4 ∧ ∀ a ∈ litE n, Byte a := by
  rw [litE_is_4 hlo hhi]
  refine ⟨?_, rfl, ?_⟩
  · unfold encN
    rw [if_neg hr]
    repeat' split
    all_goals first
      | (exfalso; omega)
      | (simp only [List.map_cons, List.map_nil, List.cons.injEq, and_true]; omega)
  · intro a ha
    simp only [List.mem_cons, List.not_mem_nil, or_false] at ha
    unfold Byte
    omega

set_option maxRecDepth 100000 in
set_option maxHeartbeats 1000000 in
theorem encode_one (n : Nat) (w : World) (hlo : 0 ≤ n) (hhi : n < 128) (hi : isR n = true) : Calls Tryd.prog 57 #[.int .i32 n] w fun e w' => e = .returned (.string (encS n)) ∧ Chg (fun _ => False) w w' := by
  have hr : ¬ (55296 ≤ n ∧ (n < 57344 ∨ 1114111 < n)) := by unfold isR at hi; simp at hi; omega
  have hn2 : n ≤ 1114111 := by omega
  have HY : Hid ((litE n).map Int.toNat = encN n ∧ (litE n).length = 1 ∧ ∀ a ∈ litE n, Byte a) := Lib.hid (litE_1 hlo hhi hn2 hr)
  have HI := Lib.hid hi
  have HS := Lib.hid (strOf_encS HY.out.1)
  have d1 : decide ((n : Int) < 128) = true := by simp; omega
  have d2 : decide ((n : Int) < 2048) = true := by simp; omega
  have d3 : decide ((n : Int) < 65536) = true := by simp; omega
  have hc := conv_lit w (litE n) HY.out.2.2
  rw [HS.out, HY.out.2.1] at hc
  rw [litE_is_1 hlo hhi] at hc
  simp only [bytesV, List.map_cons, List.map_nil] at hc
  clear hr hi
  go_enter Tryd.func57, Tryd.ntmps57
  go_wp2_with fail
  refine (is_any n _).mono ?_
  rintro e w2 ⟨rfl, rfl⟩
  rw [HI.out]
  go_wp2
  go_ret
  exact ⟨rfl, (Chg.refl _ _).alloc _⟩
set_option maxRecDepth 100000 in
set_option maxHeartbeats 1000000 in
theorem encode_two (n : Nat) (w : World) (hlo : 128 ≤ n) (hhi : n < 2048) (hi : isR n = true) : Calls Tryd.prog 57 #[.int .i32 n] w fun e w' => e = .returned (.string (encS n)) ∧ Chg (fun _ => False) w w' := by
  have hr : ¬ (55296 ≤ n ∧ (n < 57344 ∨ 1114111 < n)) := by unfold isR at hi; simp at hi; omega
  have hn2 : n ≤ 1114111 := by omega
  have HY : Hid ((litE n).map Int.toNat = encN n ∧ (litE n).length = 2 ∧ ∀ a ∈ litE n, Byte a) := Lib.hid (litE_2 hlo hhi hn2 hr)
  have HI := Lib.hid hi
  have HS := Lib.hid (strOf_encS HY.out.1)
  have d1 : decide ((n : Int) < 128) = false := by simp; omega
  have d2 : decide ((n : Int) < 2048) = true := by simp; omega
  have d3 : decide ((n : Int) < 65536) = true := by simp; omega
  have hc := conv_lit w (litE n) HY.out.2.2
  rw [HS.out, HY.out.2.1] at hc
  rw [litE_is_2 hlo hhi] at hc
  simp only [bytesV, List.map_cons, List.map_nil] at hc
  clear hr hi
  go_enter Tryd.func57, Tryd.ntmps57
  go_wp2_with fail
  refine (is_any n _).mono ?_
  rintro e w2 ⟨rfl, rfl⟩
  rw [HI.out]
  go_wp2
  go_ret
  exact ⟨rfl, (Chg.refl _ _).alloc _⟩
set_option maxRecDepth 100000 in
set_option maxHeartbeats 1000000 in
theorem encode_three (n : Nat) (w : World) (hlo : 2048 ≤ n) (hhi : n < 65536) (hi : isR n = true) : Calls Tryd.prog 57 #[.int .i32 n] w fun e w' => e = .returned (.string (encS n)) ∧ Chg (fun _ => False) w w' := by
  have hr : ¬ (55296 ≤ n ∧ (n < 57344 ∨ 1114111 < n)) := by unfold isR at hi; simp at hi; omega
  have hn2 : n ≤ 1114111 := by omega
  have HY : Hid ((litE n).map Int.toNat = encN n ∧ (litE n).length = 3 ∧ ∀ a ∈ litE n, Byte a) := Lib.hid (litE_3 hlo hhi hn2 hr)
  have HI := Lib.hid hi
  have HS := Lib.hid (strOf_encS HY.out.1)
  have d1 : decide ((n : Int) < 128) = false := by simp; omega
  have d2 : decide ((n : Int) < 2048) = false := by simp; omega
  have d3 : decide ((n : Int) < 65536) = true := by simp; omega
  have hc := conv_lit w (litE n) HY.out.2.2
  rw [HS.out, HY.out.2.1] at hc
  rw [litE_is_3 hlo hhi] at hc
  simp only [bytesV, List.map_cons, List.map_nil] at hc
  clear hr hi
  go_enter Tryd.func57, Tryd.ntmps57
  go_wp2_with fail
  refine (is_any n _).mono ?_
  rintro e w2 ⟨rfl, rfl⟩
  rw [HI.out]
  go_wp2
  go_ret
  exact ⟨rfl, (Chg.refl _ _).alloc _⟩
set_option maxRecDepth 100000 in
set_option maxHeartbeats 1000000 in
theorem encode_four (n : Nat) (w : World) (hlo : 65536 ≤ n) (hhi : n < 2147483648) (hi : isR n = true) : Calls Tryd.prog 57 #[.int .i32 n] w fun e w' => e = .returned (.string (encS n)) ∧ Chg (fun _ => False) w w' := by
  have hr : ¬ (55296 ≤ n ∧ (n < 57344 ∨ 1114111 < n)) := by unfold isR at hi; simp at hi; omega
  have hn2 : n ≤ 1114111 := by omega
  have HY : Hid ((litE n).map Int.toNat = encN n ∧ (litE n).length = 4 ∧ ∀ a ∈ litE n, Byte a) := Lib.hid (litE_4 hlo hhi hn2 hr)
  have HI := Lib.hid hi
  have HS := Lib.hid (strOf_encS HY.out.1)
  have d1 : decide ((n : Int) < 128) = false := by simp; omega
  have d2 : decide ((n : Int) < 2048) = false := by simp; omega
  have d3 : decide ((n : Int) < 65536) = false := by simp; omega
  have hc := conv_lit w (litE n) HY.out.2.2
  rw [HS.out, HY.out.2.1] at hc
  rw [litE_is_4 hlo hhi] at hc
  simp only [bytesV, List.map_cons, List.map_nil] at hc
  clear hr hi
  go_enter Tryd.func57, Tryd.ntmps57
  go_wp2_with fail
  refine (is_any n _).mono ?_
  rintro e w2 ⟨rfl, rfl⟩
  rw [HI.out]
  go_wp2
  go_ret
  exact ⟨rfl, (Chg.refl _ _).alloc _⟩
theorem encode_any (n : Nat) (w : World) (hn : n ≤ 2147483647) : Calls Tryd.prog 57 #[.int .i32 n] w fun e w' => e = .returned (.string (encS n)) ∧ Chg (fun _ => False) w w' := by
  cases hi : isR n with
  | false => exact encode_bad n w hi
  | true =>
    by_cases h1 : n < 128
    · exact encode_one n w (by omega) h1 hi
    · by_cases h2 : n < 2048
      · exact encode_two n w (by omega) h2 hi
      · by_cases h3 : n < 65536
        · exact encode_three n w (by omega) h3 hi
        · exact encode_four n w (by omega) (by omega) hi
end Go.Proofs.YtfhmblbomkhcpaaDoor
