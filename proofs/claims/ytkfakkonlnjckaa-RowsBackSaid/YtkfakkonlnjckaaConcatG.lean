/- slices.Concat of two lists, the second of any capacity. -/
import Derived.Test.YtkfakkonlnjckaaPutB
import Derived.Handy
namespace Go.Proofs.Ytkfakkonlnjckaa
open Go.RowKit

set_option maxRecDepth 100000 in
theorem grow_k (w : World) (k : Nat) (hk : 0 < k) (hl : k ≤ 1000000000) :
    Calls Try.prog 68 #[.slice none 0 0, .int .i64 k] w fun e w' => ∃ v, e = .returned v ∧ Own w' w.heap.size v [] ∧ Chg (fun _ => False) w w' := by
  obtain ⟨w1, C1, hrun, hR1, hp1, hl1, hm1, hc1⟩ := zeros8 (w := w) none [] (fun w' _ => run_firstCells_none w' 1 0 0 0) (fun _ h => by cases h) k hk (by simp; omega) 0
  simp only [List.length_nil, Nat.zero_add] at hl1 hrun
  have HRUN : Hid ((Builtin.append_ #[55, 3] 0 #[.slice none 0 0, .int .i64 k]).run Try.prog w = .ok (.slice (some ⟨w.heap.size, 0, none⟩) k C1.length) w1) := Lib.hid hrun
  have HO : Hid (Own w1 w.heap.size (.slice (some ⟨w.heap.size, 0, none⟩) 0 C1.length) []) := Lib.hid (.inr ⟨_, C1, rfl, Nat.le_refl _, hR1, hp1, hm1⟩)
  have HC := Lib.hid hc1
  unfold maxLen at hm1
  clear hrun hR1 hp1 hc1
  go_enter Try.func68, Try.ntmps68
  go_wp2_with (at_builtin; refine Lib.wpList_append_run _ rfl _ _ _ _ rfl _ _ rfl rfl _ _ HRUN.out ?_)
  go_ret
  exact ⟨_, rfl, HO.out, HC.out⟩

set_option maxRecDepth 100000 in
set_option maxHeartbeats 4000000 in
theorem concat_gen (X Y : List Int) (ax : Option Addr) (gx ox cx hy cy q : Nat) (w : World) (hx : BytesAt w gx ox X) (hax : 0 < X.length → ax = some ⟨gx, ox, none⟩) (hyr : BytesAt w hy 0 Y) (hyl : 0 < Y.length) (hxl : X.length ≤ 100000000) (hyl2 : Y.length ≤ 100000000)
    (q0 : w.cell? ⟨q, 0, none⟩ = some (.slice ax X.length cx)) (q1 : w.cell? ⟨q, 1, none⟩ = some (.slice (some ⟨hy, 0, none⟩) Y.length cy)) :
    Calls Try.prog 53 #[.slice (some ⟨q, 0, none⟩) 2 2] w fun e w' => ∃ v, e = .returned v ∧ Own w' w.heap.size v (X ++ Y) ∧ Chg (fun _ => False) w w' := by
  have HX := Lib.hid hx
  have HAX := Lib.hid hax
  have HY := Lib.hid hyr
  have HQ : Hid (∀ w', Chg (fun _ => False) w w' → w'.cell? ⟨q, 0, none⟩ = some (.slice ax X.length cx) ∧ w'.cell? ⟨q, 1, none⟩ = some (.slice (some ⟨hy, 0, none⟩) Y.length cy)) := Lib.hid fun w' hc => ⟨hc.cellS q0 (fun h => h), hc.cellS q1 (fun h => h)⟩
  have HXB := Lib.hid hx.byte
  have HYB := Lib.hid hyr.byte
  clear hx hax hyr
  go_enter Try.func53, Try.ntmps53
  go_wp2_with fail
  go_loopw [3, 11] (fun n i wr => ((i = .int .i64 0 ∧ n = .int .i64 0) ∨ (i = .int .i64 1 ∧ n = .int .i64 X.length) ∨ (i = .int .i64 2 ∧ n = .int .i64 ((X.length : Int) + Y.length))) ∧ wr = w) (fun _ i _ => 2 - (intOf i).toNat)
  case atStart => exact ⟨.inl ⟨rfl, rfl⟩, rfl⟩
  case round =>
    obtain ⟨h, rfl⟩ := hrel
    rcases h with ⟨rfl, rfl⟩ | ⟨rfl, rfl⟩ | ⟨rfl, rfl⟩
    · go_wp2_with fail
      go_roundw
      case rel => first | exact ⟨.inr (.inl ⟨rfl, rfl⟩), rfl⟩ | simp
      case measure => simp [intOf]
    · go_wp2_with fail
      go_roundw
      case rel => first | exact ⟨.inr (.inr ⟨rfl, rfl⟩), rfl⟩ | simp
      case measure => simp [intOf]
    · clear q0 q1
      go_wp2_with fail
      have hsum : (X.length : Int) + Y.length = ((X.length + Y.length : Nat) : Int) := by omega
      rw [hsum]
      refine (grow_k wr (X.length + Y.length) (by omega) (by omega)).mono ?_
      rintro e w1 ⟨v1, rfl, h1, hc1⟩
      have H1 := Lib.hid h1
      have HC1 := Lib.hid hc1
      clear h1 hc1 hsum
      go_wp2_with fail
      obtain ⟨wo, rfl⟩ : ∃ wo : World, wo = wr := ⟨_, rfl⟩
      go_loopw [6, 27] (fun v i wr => ((i = .int .i64 0 ∧ Own wr wo.heap.size v []) ∨ (i = .int .i64 1 ∧ Own wr wo.heap.size v ([] ++ X)) ∨ (i = .int .i64 2 ∧ Own wr wo.heap.size v ([] ++ X ++ Y))) ∧ Chg (fun k => wo.heap.size ≤ k) wo wr) (fun _ i _ => 2 - (intOf i).toNat)
      case atStart => exact ⟨.inl ⟨rfl, H1.out⟩, HC1.out.any⟩
      case round =>
        clear H1 HC1
        obtain ⟨h, hc⟩ := hrel
        have HC := Lib.hid hc
        obtain ⟨q0, q1⟩ := HQ.out wr hc.fresh
        clear hc
        rcases h with ⟨rfl, ho⟩ | ⟨rfl, ho⟩ | ⟨rfl, ho⟩
        · have HO := Lib.hid ho
          clear ho
          go_wp2_with (at_builtin; refine wpList_append8 rfl _ _ 55 rfl wo.heap.size _ [] X (.slice ax X.length cx) rfl rfl HO.out HC.out.size (srcBytes (HX.out.chg HC.out.fresh (fun _ h => h)) HAX.out) HXB.out (by simp; omega) ?_; intro v3 w3 K1 K2 K3)
          go_roundw
          case rel => exact ⟨.inr (.inl ⟨rfl, K1.out⟩), HC.out.trans K2.out⟩
          case measure => simp [intOf]
        · have HO := Lib.hid ho
          clear ho
          go_wp2_with (at_builtin; refine wpList_append8 rfl _ _ 55 rfl wo.heap.size _ ([] ++ X) Y (.slice (some ⟨hy, 0, none⟩) Y.length cy) rfl rfl HO.out HC.out.size (srcBytes (HY.out.chg HC.out.fresh (fun _ h => h)) (fun _ => rfl)) HYB.out (by simp; omega) ?_; intro v3 w3 K1 K2 K3)
          go_roundw
          case rel => exact ⟨.inr (.inr ⟨rfl, K1.out⟩), HC.out.trans K2.out⟩
          case measure => simp [intOf]
        · have HO := Lib.hid ho
          clear ho q0 q1
          go_wp2_with fail
          go_ret
          exact ⟨_, rfl, HO.out, HC.out.fresh⟩
end Go.Proofs.Ytkfakkonlnjckaa
