/- The chapter's examples. -/
import Derived.Test.YtkfakkonlnjckaaRowsQ
import Derived.Test.YtkfakkonlnjckaaRowsT
import Derived.Test.YtkfakkonlnjckaaRowsV
import Derived.Test.YtkfakkonlnjckaaStrs
namespace Go.Proofs.Ytkfakkonlnjckaa
open Go.RowKit

theorem bytesOf_small : ∀ (L : List Int), (∀ n ∈ L, 0 ≤ n ∧ n < 128) → bytesOf L = L
  | [], _ => rfl
  | x :: L, h => by
    have h3 : bytesOf (x :: L) = putL x.toNat ++ bytesOf L := by simp [bytesOf]
    have hx := h x (by simp)
    rw [h3, bytesOf_small L (fun n hn => h n (by simp [hn])), putL_small (by omega)]
    simp
    omega
def livesT : TabD := (2, [(1, []), (1, [(0, 3)])], [0, 1, 0])
theorem livesMake : makeL [[1, 1], [3, 1], [1, 1]] = (livesT.2.1, livesT.2.2) := by kernel_rfl
theorem livesMay : mayL livesT = true := by kernel_rfl
theorem livesNums : tabNums livesT = [2, 2, 2, 0, 2, 1, 0, 4, 3, 0, 1, 0] := by kernel_rfl
theorem livesPut : putTab livesT = [2, 2, 2, 0, 2, 1, 0, 4, 3, 0, 1, 0] := by
  unfold putTab
  rw [livesNums]
  exact bytesOf_small _ (by decide)

/-- Three lists of two, written out. -/
theorem lists3 (w : World) (a0 a1 b0 b1 c0 c1 : Int) (h : ∀ n ∈ [a0, a1, b0, b1, c0, c1], I.Byte n) (e1 e2 e3 e4 : TypeId) :
    ListsIn ((((w.alloc (.cells #[.int .i64 a0, .int .i64 a1] e1)).alloc (.cells #[.int .i64 b0, .int .i64 b1] e2)).alloc (.cells #[.int .i64 c0, .int .i64 c1] e3)).alloc (.cells #[.slice (some ⟨w.heap.size, 0, none⟩) 2 2, .slice (some ⟨w.heap.size + 1, 0, none⟩) 2 2, .slice (some ⟨w.heap.size + 2, 0, none⟩) 2 2] e4)) 0 (some ⟨w.heap.size + 3, 0, none⟩, 3, 3) [[a0, a1], [b0, b1], [c0, c1]] := by
  simp only [List.mem_cons, List.not_mem_nil, or_false] at h
  have s1 : (w.alloc (.cells #[.int .i64 a0, .int .i64 a1] e1)).heap.size = w.heap.size + 1 := by simp
  have s2 : ((w.alloc (.cells #[.int .i64 a0, .int .i64 a1] e1)).alloc (.cells #[.int .i64 b0, .int .i64 b1] e2)).heap.size = w.heap.size + 2 := by simp
  have s3 : (((w.alloc (.cells #[.int .i64 a0, .int .i64 a1] e1)).alloc (.cells #[.int .i64 b0, .int .i64 b1] e2)).alloc (.cells #[.int .i64 c0, .int .i64 c1] e3)).heap.size = w.heap.size + 3 := by simp
  have A := intE.lit w [a0, a1] e1 (by intro x hx; simp only [List.mem_cons, List.not_mem_nil, or_false] at hx; rcases hx with rfl | rfl <;> exact h _ (by simp))
  have B := intE.lit (w.alloc (.cells #[.int .i64 a0, .int .i64 a1] e1)) [b0, b1] e2 (by intro x hx; simp only [List.mem_cons, List.not_mem_nil, or_false] at hx; rcases hx with rfl | rfl <;> exact h _ (by simp))
  have C := intE.lit ((w.alloc (.cells #[.int .i64 a0, .int .i64 a1] e1)).alloc (.cells #[.int .i64 b0, .int .i64 b1] e2)) [c0, c1] e3 (by intro x hx; simp only [List.mem_cons, List.not_mem_nil, or_false] at hx; rcases hx with rfl | rfl <;> exact h _ (by simp))
  have D := listE.lit (((w.alloc (.cells #[.int .i64 a0, .int .i64 a1] e1)).alloc (.cells #[.int .i64 b0, .int .i64 b1] e2)).alloc (.cells #[.int .i64 c0, .int .i64 c1] e3)) [(some ⟨w.heap.size, 0, none⟩, 2, 2), (some ⟨w.heap.size + 1, 0, none⟩, 2, 2), (some ⟨w.heap.size + 2, 0, none⟩, 2, 2)] e4 (fun _ _ => trivial)
  rw [s1] at B
  rw [s2] at C
  rw [s3] at D
  have al : ∀ (w : World) (o : Obj), Chg (fun _ => False) w (w.alloc o) := fun w o => (Chg.refl _ _).alloc o
  refine ⟨_, ⟨rfl, Nat.le_refl _, w.heap.size + 3, 0, D, fun _ => ⟨rfl, Nat.zero_le _⟩⟩, rfl, fun j x l hx hl => ?_⟩
  match j with
  | 0 =>
    simp at hx hl
    subst hx hl
    exact ⟨rfl, Nat.le_refl _, w.heap.size, 0, (((A.chg (al _ _) (fun _ h => h)).chg (al _ _) (fun _ h => h)).chg (al _ _) (fun _ h => h)), fun _ => ⟨rfl, Nat.zero_le _⟩⟩
  | 1 =>
    simp at hx hl
    subst hx hl
    exact ⟨rfl, Nat.le_refl _, w.heap.size + 1, 0, ((B.chg (al _ _) (fun _ h => h)).chg (al _ _) (fun _ h => h)), fun _ => ⟨rfl, Nat.zero_le _⟩⟩
  | 2 =>
    simp at hx hl
    subst hx hl
    exact ⟨rfl, Nat.le_refl _, w.heap.size + 2, 0, (C.chg (al _ _) (fun _ h => h)), fun _ => ⟨rfl, Nat.zero_le _⟩⟩
  | j + 3 => simp at hx

set_option maxRecDepth 100000 in
set_option maxHeartbeats 8000000 in
theorem lives_any (w : World) : Calls Try.prog 9 #[] w fun e w' => e = .returned (.bool true) ∧ Chg (fun _ => False) w w' := by
  have HC0 := Lib.hid (Chg.refl (fun _ => False) w)
  go_enter Try.func9, Try.ntmps9
  go_wp2_with fail
  refine (of_ok [5, 5, -1, 5] _ _ 0 4 _ (I.lit8 _ [5, 5, -1, 5] 3 (by decide)) (fun _ => rfl) (by decide) (by decide)).mono ?_
  rintro e w1 ⟨⟨sa, sn, sc⟩, rfl, hin, hc⟩
  obtain rfl : sn = 1 := hin.1
  obtain ⟨y, g, o, u, v, hy, rfl, he, k0, k1, -, -, -⟩ := hin.get2 rfl (k := 0) (by decide)
  obtain rfl : ((2, -1) : Int × Int) = y := Option.some.inj hy
  obtain ⟨rfl, rfl⟩ := pairOf he
  have HIN := Lib.hid hin
  simp only [Nat.zero_mul, Nat.add_zero] at k0 k1
  rw [show usualL [5, 5, -1, 5] = 5 from by kernel_rfl]
  unfold ofV slV
  simp only
  have HC1 := Lib.hid (HC0.out.trans (((Chg.refl (fun _ => False) _).alloc _).trans hc))
  have HK := Lib.hid (And.intro k0 k1)
  clear hc HC0 hy he hin k0 k1
  go_wp2_with fail
  refine (of_ok [2, 1] _ _ 0 2 _ (I.lit8 (w1.alloc (.cells #[.int .i64 5, .slice (some ⟨g, o, none⟩) 1 sc] 27)) [2, 1] 3 (by decide)) (fun _ => by simp) (by decide) (by decide)).mono ?_
  rintro e w2 ⟨⟨sa2, sn2, sc2⟩, rfl, hin, hc⟩
  obtain rfl : sn2 = 1 := hin.1
  obtain ⟨y, g2, o2, u, v, hy, rfl, he, k0, k1, -, -, -⟩ := hin.get2 rfl (k := 0) (by decide)
  obtain rfl : ((0, 2) : Int × Int) = y := Option.some.inj hy
  obtain ⟨rfl, rfl⟩ := pairOf he
  simp only [Nat.zero_mul, Nat.add_zero] at k0 k1
  rw [show usualL [2, 1] = 1 from by kernel_rfl]
  unfold ofV slV
  simp only
  have HE1 := Lib.hid (Chg.trans ((Chg.refl (fun _ => False) (w1.alloc (.cells #[.int .i64 5, .slice (some ⟨g, o, none⟩) 1 sc] 27))).alloc _) hc)
  have HK2 := Lib.hid (And.intro k0 k1)
  clear hc hy he hin k0 k1
  go_wp2_with fail
  refine (of_ok [] none 0 0 0 _ ⟨fun k a hk => by simp at hk, fun h => (h rfl).elim⟩ (fun h => by simp at h) (by decide) (by decide)).mono ?_
  rintro e w3 ⟨⟨sa3, sn3, sc3⟩, rfl, hin, hc⟩
  obtain rfl : sn3 = 0 := hin.1
  rw [show usualL [] = -1 from by kernel_rfl]
  unfold ofV slV
  simp only
  have HE2 := Lib.hid hc
  clear hc hin
  go_wp2_with fail
  have hls := lists3 (w3.alloc (.cells #[.int .i64 (-1), .slice sa3 0 sc3] 27)) 1 1 3 1 1 1 (by decide) 3 3 3 22
  rw [show (w3.alloc (.cells #[.int .i64 (-1), .slice sa3 0 sc3] 27)).heap.size = w3.heap.size + 1 from by simp] at hls
  refine (make_any 2 [[1, 1], [3, 1], [1, 1]] _ 3 0 _ hls (by decide) (by decide) (by decide) (by decide)).mono ?_
  intro e w4 hpost
  rcases hpost with ⟨hno, -⟩ | ⟨-, ra, oa, rfl, hri, hof, hc⟩
  · exact absurd hno (by rw [show makeOk 2 [[1, 1], [3, 1], [1, 1]] = true from by kernel_rfl]; decide)
  rw [livesMake] at hri hof ⊢
  unfold tabV
  rw [show (livesT.2.1, livesT.2.2).1.length = 2 from rfl] at hri ⊢
  rw [show (livesT.2.1, livesT.2.2).2.length = 3 from rfl]
  rw [show (livesT.2.1, livesT.2.2).2 = [0, 1, 0] from rfl] at hof
  rw [show (livesT.2.1, livesT.2.2).1 = [(1, []), (1, [(0, 3)])] from rfl] at hri
  have HRI := Lib.hid hri
  have HOF := Lib.hid hof
  have HE3 := Lib.hid (Chg.trans ((((Chg.refl (fun _ => False) (w3.alloc (.cells #[.int .i64 (-1), .slice sa3 0 sc3] 27))).alloc _).alloc _).alloc _ |>.alloc _) hc)
  obtain ⟨go, hoa, hro⟩ : ∃ go, oa = some ⟨go, 0, none⟩ ∧ I.Row w4 go [0, 1, 0] := by
    rcases hof with ⟨h, _⟩ | ⟨g, h1, h2, _⟩
    · cases h
    · exact ⟨g, h1, h2⟩
  subst hoa
  have HRO := Lib.hid hro
  clear hri hof hc hls hro
  go_wp2_with fail
  have HTA := Lib.hid ((Chg.refl (fun _ => False) w4).alloc (.cells #[.int .i64 2, .slice ra 2 2, .slice (some ⟨go, 0, none⟩) 3 3] 45))
  refine (put_ok [] 2 [(1, []), (1, [(0, 3)])] [0, 1, 0] ra (some ⟨go, 0, none⟩) none 2 3 0 0 0 _ go 0 _ (by decide) (HRI.out.same HTA.out) (by decide) (by decide) ((HRO.out.chg HTA.out (fun h => h)).bytes (List.prefix_refl _)) (fun _ => rfl) (by decide) (by kernel_rfl) ⟨fun k a hk => by simp at hk, fun h => (h rfl).elim⟩ (fun h => by simp at h) (by decide) (by rw [show tabNums (2, [(1, []), (1, [(0, 3)])], [0, 1, 0]) = [2, 2, 2, 0, 2, 1, 0, 4, 3, 0, 1, 0] from livesNums]; decide)).mono ?_
  rintro e w5 ⟨gb, rfl, -, hrb, hc⟩
  rw [show putTab (2, [(1, []), (1, [(0, 3)])], [0, 1, 0]) = [2, 2, 2, 0, 2, 1, 0, 4, 3, 0, 1, 0] from livesPut] at hrb ⊢
  have HRB := Lib.hid hrb
  have HE4 := Lib.hid hc
  have HB1 : Hid (Chg (fun _ => False) (w1.alloc (.cells #[.int .i64 5, .slice (some ⟨g, o, none⟩) 1 sc] 27)) w5) := Lib.hid ((HE1.out.alloc _).trans ((HE2.out.alloc _).trans ((HE3.out.alloc _).trans HE4.out)))
  have HB2 : Hid (Chg (fun _ => False) (w2.alloc (.cells #[.int .i64 1, .slice (some ⟨g2, o2, none⟩) 1 sc2] 27)) w5) := Lib.hid ((HE2.out.alloc _).trans ((HE3.out.alloc _).trans HE4.out))
  have HB3 : Hid (Chg (fun _ => False) (w3.alloc (.cells #[.int .i64 (-1), .slice sa3 0 sc3] 27)) w5) := Lib.hid ((HE3.out.alloc _).trans HE4.out)
  have HFB : Hid (∀ wx, Chg (fun _ => False) w5 wx → (wx.cell? ⟨w1.heap.size, 0, none⟩ = some (.int .i64 5) ∧ wx.cell? ⟨w1.heap.size, 1, none⟩ = some (.slice (some ⟨g, o, none⟩) 1 sc) ∧ wx.cell? ⟨g, o, none⟩ = some (.int .i64 2) ∧ wx.cell? ⟨g, o + 1, none⟩ = some (.int .i64 (-1))) ∧
      (wx.cell? ⟨w2.heap.size, 0, none⟩ = some (.int .i64 1) ∧ wx.cell? ⟨w2.heap.size, 1, none⟩ = some (.slice (some ⟨g2, o2, none⟩) 1 sc2) ∧ wx.cell? ⟨g2, o2, none⟩ = some (.int .i64 0) ∧ wx.cell? ⟨g2, o2 + 1, none⟩ = some (.int .i64 2)) ∧
      (wx.cell? ⟨w3.heap.size, 0, none⟩ = some (.int .i64 (-1)) ∧ wx.cell? ⟨w3.heap.size, 1, none⟩ = some (.slice sa3 0 sc3)) ∧
      (wx.cell? ⟨w4.heap.size, 0, none⟩ = some (.int .i64 2) ∧ wx.cell? ⟨w4.heap.size, 1, none⟩ = some (.slice ra 2 2) ∧ wx.cell? ⟨w4.heap.size, 2, none⟩ = some (.slice (some ⟨go, 0, none⟩) 3 3))) := Lib.hid fun wx hx => by
    have al : ∀ (w : World) (o : Obj), Chg (fun _ => False) w (w.alloc o) := fun w o => (Chg.refl _ _).alloc o
    have e1 := HB1.out.trans hx
    have e2 := HB2.out.trans hx
    have e3 := HB3.out.trans hx
    have e4 := HE4.out.trans hx
    exact ⟨⟨e1.cellS (by simp) (fun h => h), e1.cellS (by simp) (fun h => h), ((al _ _).trans e1).cellS HK.out.1 (fun h => h), ((al _ _).trans e1).cellS HK.out.2 (fun h => h)⟩, ⟨e2.cellS (by simp) (fun h => h), e2.cellS (by simp) (fun h => h), ((al _ _).trans e2).cellS HK2.out.1 (fun h => h), ((al _ _).trans e2).cellS HK2.out.2 (fun h => h)⟩, ⟨e3.cellS (by simp) (fun h => h), e3.cellS (by simp) (fun h => h)⟩, ⟨e4.cellS (by simp) (fun h => h), e4.cellS (by simp) (fun h => h), e4.cellS (by simp) (fun h => h)⟩⟩
  have HCW : Hid (Chg (fun _ => False) w w5) := Lib.hid ((HC1.out.alloc _).trans HB1.out)
  have HIN5 : Hid (cellE.In w5 0 (some ⟨g, o, none⟩, 1, sc) [(2, -1)]) := Lib.hid ((HIN.out.lower (Nat.zero_le _)).same (((Chg.refl _ _).alloc _).trans HB1.out))
  clear hc hrb HB1 HB2 HB3 HE1 HE2 HE3 HK HK2 HC1 HIN
  obtain ⟨⟨f0, f1, f2, f3⟩, ⟨f4, f5, f6, f7⟩, ⟨f8, f9⟩, f10, f11, f12⟩ := HFB.out w5 (Chg.refl _ _)
  go_wp2_with fail
  refine (at_any 5 [(2, -1)] (some ⟨g, o, none⟩) sc 0 2 w5 HIN5.out (by decide)).mono ?_
  rintro e w6 ⟨rfl, hc6⟩
  rw [show atRow (5, [(2, -1)]) 2 = -1 from by kernel_rfl]
  have HC6 := Lib.hid hc6
  clear f0 f1 f2 f3 f4 f5 f6 f7 f8 f9 f10 f11 f12 hc6
  obtain ⟨⟨f0, f1, f2, f3⟩, ⟨f4, f5, f6, f7⟩, ⟨f8, f9⟩, f10, f11, f12⟩ := HFB.out w6 HC6.out
  go_wp2_with fail
  refine (at_any 5 [(2, -1)] (some ⟨g, o, none⟩) sc 0 99 w6 (HIN5.out.same HC6.out) (by decide)).mono ?_
  rintro e w7 ⟨rfl, hc7⟩
  rw [show atRow (5, [(2, -1)]) 99 = 5 from by kernel_rfl]
  have HC7 := Lib.hid (HC6.out.trans hc7)
  clear f0 f1 f2 f3 f4 f5 f6 f7 f8 f9 f10 f11 f12 hc7
  obtain ⟨⟨f0, f1, f2, f3⟩, ⟨f4, f5, f6, f7⟩, ⟨f8, f9⟩, f10, f11, f12⟩ := HFB.out w7 HC7.out
  go_wp2_with fail
  have HB7 := Lib.hid ((HTA.out.trans HE4.out).trans HC7.out)
  refine (atTab_any 2 1 0 [(1, []), (1, [(0, 3)])] [0, 1, 0] ra (some ⟨go, 0, none⟩) 2 3 _ go 0 w7 (by decide) (by decide) (by decide) (HRI.out.same HB7.out) (by decide) ((HRO.out.chg HB7.out (fun h => h)).bytes (List.prefix_refl _)) (fun _ => rfl) (by decide)).mono ?_
  rintro e w8 ⟨rfl, hc8⟩
  rw [show atTab (2, [(1, []), (1, [(0, 3)])], [0, 1, 0]) 1 0 = 3 from by kernel_rfl]
  have HC8 := Lib.hid (HC7.out.trans hc8)
  have HB8 := Lib.hid (HB7.out.trans hc8)
  clear f0 f1 f2 f3 f4 f5 f6 f7 f8 f9 f10 f11 f12 hc8
  obtain ⟨⟨f0, f1, f2, f3⟩, ⟨f4, f5, f6, f7⟩, ⟨f8, f9⟩, f10, f11, f12⟩ := HFB.out w8 HC8.out
  go_wp2_with fail
  refine (atTab_any 2 2 0 [(1, []), (1, [(0, 3)])] [0, 1, 0] ra (some ⟨go, 0, none⟩) 2 3 _ go 0 w8 (by decide) (by decide) (by decide) (HRI.out.same HB8.out) (by decide) ((HRO.out.chg HB8.out (fun h => h)).bytes (List.prefix_refl _)) (fun _ => rfl) (by decide)).mono ?_
  rintro e w9 ⟨rfl, hc9⟩
  rw [show atTab (2, [(1, []), (1, [(0, 3)])], [0, 1, 0]) 2 0 = 1 from by kernel_rfl]
  have HC9 := Lib.hid (HC8.out.trans hc9)
  have hcv : (convert 55 9 (.slice (some ⟨gb, 0, none⟩) 12 12)).run Try.prog w9 = .ok (.string ⟨#[2, 2, 2, 0, 2, 1, 0, 4, 3, 0, 1, 0]⟩) w9 := conv8 (Z := [2, 2, 2, 0, 2, 1, 0, 4, 3, 0, 1, 0]) 12 ((HRB.out.chg HC9.out (fun h => h)).bytes (List.prefix_refl _)) (fun _ => rfl)
  have HCF := Lib.hid (HCW.out.trans HC9.out)
  clear f0 f1 f2 f3 f4 f5 f6 f7 f8 f9 f10 f11 f12 hc9
  go_wp2
  go_ret
  exact ⟨rfl, HCF.out⟩
end Go.Proofs.Ytkfakkonlnjckaa
