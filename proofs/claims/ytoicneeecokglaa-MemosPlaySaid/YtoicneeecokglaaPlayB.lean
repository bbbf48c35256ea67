/- 'MemosPlay': its walk. -/
import Derived.Test.YtoicneeecokglaaPlayA
import Derived.Deep.DeepCutAuto
import Derived.Deep.CutBlock
import Derived.Test.YtoicneeecokglaaTwo
namespace Go.Proofs.Ytoicneeecokglaa
open Go.RowKit Go.Maps

/-- The acts that came in: a row of four cells each. -/
abbrev Actt := Int × Int × Int × Int
structure ActsAt (w : World) (g o : Nat) (A : List Actt) : Prop where
  c : ∀ k a, A[k]? = some a → w.cell? ⟨g, o + k * 4, none⟩ = some (.int .u8 a.1) ∧ w.cell? ⟨g, o + k * 4 + 1, none⟩ = some (.int .i64 a.2.1) ∧ w.cell? ⟨g, o + k * 4 + 2, none⟩ = some (.int .i64 a.2.2.1) ∧ w.cell? ⟨g, o + k * 4 + 3, none⟩ = some (.int .i64 a.2.2.2)
  f : ∀ a ∈ A, (0 ≤ a.1 ∧ a.1 ≤ 255) ∧ W64 a.2.1 ∧ W64 a.2.2.1 ∧ W64 a.2.2.2

/-- In a round, behind the act's box: what is where, by what was said to whom. -/
def InRound (w0 : World) (b br bp d xb : Nat) (N : Nat → Prop) (x y z : Int) (s s' : MS) (r r' : RS) (w : World) (p q : Bool) : Prop :=
  MemoAt w b br bp (if p then s' else s) ∧ RefAt w N d (if q then r' else r) ∧ Chg (fun j => w0.heap.size ≤ j) w0 w ∧
    w.cell? ⟨xb, 1, none⟩ = some (.int .i64 x) ∧ w.cell? ⟨xb, 2, none⟩ = some (.int .i64 y) ∧ w.cell? ⟨xb, 3, none⟩ = some (.int .i64 z)
theorem InRound.drew {w0 : World} {b br bp d xb : Nat} {N : Nat → Prop} {x y z : Int} {s s' : MS} {r r' : RS} {w : World} {p q : Bool} (h : InRound w0 b br bp d xb N x y z s s' r r' w p q) : InRound w0 b br bp d xb N x y z s s' r r' w.drew p q := by
  obtain ⟨h1, h2, h3, h4, h5, h6⟩ := h
  exact ⟨h1.chg ((Chg.refl (fun _ => False) w).drew) (fun h => h) (fun h => h) (fun h => h), h2.chg ((Chg.refl (fun _ => False) w).drew) (fun _ h => h.elim), h3.drew, h4, h5, h6⟩
theorem InRound.memo {w0 : World} {b br bp d xb : Nat} {N : Nat → Prop} {x y z : Int} {s s' : MS} {r r' : RS} {w w' : World} {q : Bool} {S : Nat → Prop} (h : InRound w0 b br bp d xb N x y z s s' r r' w false q) (hm : MemoAt w' b br bp s') (hc : Chg S w w') (hS : ∀ k, S k → N k) (hx : ¬ S xb) (h0 : ∀ k, S k → w0.heap.size ≤ k) : InRound w0 b br bp d xb N x y z s s' r r' w' true q := by
  obtain ⟨_, h2, h3, h4, h5, h6⟩ := h
  exact ⟨hm, h2.chg hc hS, h3.trans (hc.mono (fun k _ hk => h0 k hk)), hc.cellS h4 hx, hc.cellS h5 hx, hc.cellS h6 hx⟩
theorem InRound.ref {w0 : World} {b br bp d xb : Nat} {N : Nat → Prop} {x y z : Int} {s s' : MS} {r r' : RS} {w w' : World} {p : Bool} (h : InRound w0 b br bp d xb N x y z s s' r r' w p false) (hr : RefAt w' N d r') (hc : Chg (fun k => ¬ N k) w w') (hN : N b ∧ N br ∧ N bp ∧ N xb) (h0 : ∀ k, ¬ N k → w0.heap.size ≤ k) : InRound w0 b br bp d xb N x y z s s' r r' w' p true := by
  obtain ⟨h1, _, h3, h4, h5, h6⟩ := h
  obtain ⟨n1, n2, n3, n4⟩ := hN
  exact ⟨h1.chg hc (fun h => h n1) (fun h => h n2) (fun h => h n3), hr, h3.trans (hc.mono (fun k _ hk => h0 k hk)), hc.cellS h4 (fun h => h n4), hc.cellS h5 (fun h => h n4), hc.cellS h6 (fun h => h n4)⟩

set_option maxRecDepth 100000 in
set_option maxHeartbeats 4000000 in
theorem play_yes (x y z : Int) (g o cap : Nat) (A : List Actt) (w : World) (hA : ActsAt w g o A) (hg : g < w.heap.size) (hl : A.length ≤ 300) (hn : newB x y z = true) :
    Calls Try.prog 3 #[.agg #[.int .i64 x, .int .i64 y, .int .i64 z], .slice (some ⟨g, o, none⟩) A.length cap] w fun e w' => e = .returned (.bool true) ∧ Chg (fun _ => False) w w' := by
  have HA := Lib.hid hA
  have HN := Lib.hid hn
  clear hA hn
  go_enter Try.func3, Try.ntmps3
  go_wp2_with fail
  refine (new_yes x y z _ HN.out).mono ?_
  rintro e w0 ⟨b, br, bp, rfl, hm, hc, hb, hbr, hbp⟩
  have s0 := hc.cellS (p := ⟨w.heap.size, 0, none⟩) (World.cell?_alloc_new _ _ _ _) (fun h => h)
  have s1 := hc.cellS (p := ⟨w.heap.size, 1, none⟩) (World.cell?_alloc_new _ _ _ _) (fun h => h)
  have s2 := hc.cellS (p := ⟨w.heap.size, 2, none⟩) (World.cell?_alloc_new _ _ _ _) (fun h => h)
  simp at s0 s1 s2
  have HC0 := Lib.hid (((Chg.refl (fun _ => False) w).alloc _).trans hc)
  have HM0 := Lib.hid hm
  have HB : Hid (w.heap.size < b ∧ w.heap.size < br ∧ w.heap.size < bp) := Lib.hid (by simp at hb hbr hbp; omega)
  clear hm hc hb hbr hbp
  go_wp2_with fail
  refine (refNew_yes x y z w0 HN.out).mono ?_
  rintro e w1 ⟨rfl, hm, hc⟩
  have HR1 := Lib.hid hm
  have HC1 := Lib.hid (HC0.out.trans hc)
  have HM1 := Lib.hid (HM0.out.chg hc (fun h => h) (fun h => h) (fun h => h))
  have HK : Hid (w.heap.size < w0.heap.size ∧ b < w0.heap.size ∧ br < w0.heap.size ∧ bp < w0.heap.size) := Lib.hid ⟨Nat.lt_of_le_of_lt (Nat.le_refl _) (World.block_lt_of_cell? _ _ s0), World.block_lt_of_cell? _ _ HM0.out.c0, HM0.out.mr.lt, HM0.out.mp.lt⟩
  clear hm hc s0 s1 s2 HC0 HM0
  obtain ⟨d, hd⟩ : ∃ d, d = w0.heap.size := ⟨_, rfl⟩
  rw [← hd] at HR1 HK ⊢
  clear hd
  go_wp2_with fail
  go_loopw [9] (fun i wr => ∃ (k : Nat) (s : MS) (r : RS), k ≤ A.length ∧ i = .int .i64 k ∧ Sim s r ∧ Bd k s r ∧ MemoAt wr b br bp s ∧ RefAt wr (fun k => k < d) d r ∧ Chg (fun j => w.heap.size ≤ j) w wr) (fun i _ => A.length - (intOf i).toNat)
  case atStart => exact ⟨0, _, _, by omega, rfl, Sim.new x y z (by have := HN.out; simp [newB] at this; omega), Bd.new x y z, HM1.out, HR1.out, HC1.out.mono (fun _ _ h => h.elim)⟩
  case round =>
    obtain ⟨k, s, r, hk, rfl, hs, hbd, hm, hr, hc⟩ := hrel
    have HS := Lib.hid hs
    have HBD := Lib.hid hbd
    have HM := Lib.hid hm
    have HR := Lib.hid hr
    have HC := Lib.hid hc
    clear hs hbd hm hr hc HR1 HC1 HM1
    by_cases hlt : k < A.length
    · obtain ⟨a, ha⟩ : ∃ a, A[k]? = some a := ⟨_, List.getElem?_eq_getElem hlt⟩
      obtain ⟨q0, q1, q2, q3⟩ := HA.out.c k a ha
      have p0 := (HC.out.cell (p := ⟨g, o + k * 4, none⟩) hg (by simp; omega)).trans q0
      have p1 := (HC.out.cell (p := ⟨g, o + k * 4 + 1, none⟩) hg (by simp; omega)).trans q1
      have p2 := (HC.out.cell (p := ⟨g, o + k * 4 + 2, none⟩) hg (by simp; omega)).trans q2
      have p3 := (HC.out.cell (p := ⟨g, o + k * 4 + 3, none⟩) hg (by simp; omega)).trans q3
      have hfa := HA.out.f a (List.mem_of_getElem? ha)
      obtain ⟨a1, a2, a3, a4⟩ := a
      simp only at p0 p1 p2 p3 hfa
      obtain ⟨⟨f0, f1⟩, f2, f3, f4⟩ := hfa
      clear ha q0 q1 q2 q3
      go_upto_block 2 with (fail)
      go_cut [4] (fun _ w' => ∃ (s' : MS) (r' : RS), Sim s' r' ∧ Mid k s' r' ∧ MemoAt w' b br bp s' ∧ RefAt w' (fun j => j < d ∨ j = wr.heap.size) d r' ∧ Chg (fun j => w.heap.size ≤ j) w w' ∧
        w'.cell? ⟨wr.heap.size, 1, none⟩ = some (.int .i64 a2) ∧ w'.cell? ⟨wr.heap.size, 2, none⟩ = some (.int .i64 a3) ∧ w'.cell? ⟨wr.heap.size, 3, none⟩ = some (.int .i64 a4))
      case first =>
        have HWR : Hid (d ≤ wr.heap.size) := Lib.hid (by obtain ⟨vR, vP, h⟩ := HR.out; exact Nat.le_of_lt (World.block_lt_of_cell? _ _ h.c0))
        have HW : Hid (∀ (s' : MS) (r' : RS), InRound w b br bp d wr.heap.size (fun j => j < d ∨ j = wr.heap.size) a2 a3 a4 s s' r r' (wr.alloc (.cells #[.int .u8 a1, .int .i64 a2, .int .i64 a3, .int .i64 a4] 33)) false false) := by
          intro s' r'
          have e := ((Chg.refl (fun _ => False) wr).alloc (.cells #[.int .u8 a1, .int .i64 a2, .int .i64 a3, .int .i64 a4] 33))
          refine ⟨HM.out.chg e (fun h => h) (fun h => h) (fun h => h), HR.out.alloc _, HC.out.trans (e.mono (fun _ _ h => h.elim)), ?_, ?_, ?_⟩ <;> simp
        have HW0 := Lib.hid (HW.out s r)
        have HFM := Lib.hid (HBD.out.fine HS.out (by omega)).1
        have HFR := Lib.hid (HBD.out.fine HS.out (by omega)).2
        obtain ⟨x1, x2, x3⟩ : (wr.alloc (.cells #[.int .u8 a1, .int .i64 a2, .int .i64 a3, .int .i64 a4] 33)).cell? ⟨wr.heap.size, 1, none⟩ = some (.int .i64 a2) ∧ (wr.alloc (.cells #[.int .u8 a1, .int .i64 a2, .int .i64 a3, .int .i64 a4] 33)).cell? ⟨wr.heap.size, 2, none⟩ = some (.int .i64 a3) ∧ (wr.alloc (.cells #[.int .u8 a1, .int .i64 a2, .int .i64 a3, .int .i64 a4] 33)).cell? ⟨wr.heap.size, 3, none⟩ = some (.int .i64 a4) := ⟨by simp, by simp, by simp⟩
        clear p0 p1 p2 p3
        by_cases hA : a1 % 16 ≤ 3
        · obtain ⟨ev, he1, he2⟩ : ∃ ev : Int, errOf (s.okR a2 a3 a4) = .int .i64 ev ∧ (if r.okR a2 a3 a4 then (0 : Int) else 1) = ev := ⟨_, rfl, by rw [HS.out.okR]⟩
          have HOK := Lib.hid he1
          have HOKR := Lib.hid he2
          clear he1 he2
          have hcase : ((a1 % 16 == 0) = true) ∨ ((a1 % 16 == 0) = false ∧ (a1 % 16 == 1) = true) ∨ ((a1 % 16 == 0) = false ∧ (a1 % 16 == 1) = false ∧ (a1 % 16 == 2) = true) ∨ ((a1 % 16 == 0) = false ∧ (a1 % 16 == 1) = false ∧ (a1 % 16 == 2) = false ∧ (a1 % 16 == 3) = true) := by
            rcases (by omega : a1 % 16 = 0 ∨ a1 % 16 = 1 ∨ a1 % 16 = 2 ∨ a1 % 16 = 3) with h | h | h | h <;> simp [h]
          clear hA
          rcases hcase with b0 | ⟨b0, b1⟩ | ⟨b0, b1, b2⟩ | ⟨b0, b1, b2, b3⟩
          all_goals
            go_wp2_with fail
            refine wp_region_two (InRound w b br bp d wr.heap.size (fun j => j < d ∨ j = wr.heap.size) a2 a3 a4 s (s.sayR a2 a3 a4) r (r.sayR a2 a3 a4) )  7   15 (by kernel_rfl) (by kernel_rfl) (by kernel_rfl) ?_ ?_
            · exact (HW.out _ _).drew
            (refine wpC_read rfl (keep2 (by decide) (by decide)) (fun K hK => ?_); apply Exists.intro; refine ⟨fun _ w' _ hC => ?_, ?_⟩; ((have hC := hC.2; skip); go_simp; try with_reducible rfl); (try go_simp); refine hK _ ?_; clear hK K)
            (refine wpC_read rfl (keep2 (by decide) (by decide)) (fun K hK => ?_); apply Exists.intro; refine ⟨fun _ w' _ hC => ?_, ?_⟩; ((have hC := hC.2; skip); go_simp; try with_reducible rfl); (try go_simp); refine hK _ ?_; clear hK K)
            (refine wpC_read rfl (keep2 (by decide) (by decide)) (fun K hK => ?_); apply Exists.intro; refine ⟨fun _ w' _ hC => ?_, ?_⟩; ((have hC := hC.2; have q1 := hC.2.2.2.1; clear hC); go_simp; try with_reducible rfl); (try go_simp); refine hK _ ?_; clear hK K)
            (refine wpC_read rfl (keep2 (by decide) (by decide)) (fun K hK => ?_); apply Exists.intro; refine ⟨fun _ w' _ hC => ?_, ?_⟩; ((have hC := hC.2; skip); go_simp; try with_reducible rfl); (try go_simp); refine hK _ ?_; clear hK K)
            (refine wpC_read rfl (keep2 (by decide) (by decide)) (fun K hK => ?_); apply Exists.intro; refine ⟨fun _ w' _ hC => ?_, ?_⟩; ((have hC := hC.2; have q1 := hC.2.2.2.2.1; clear hC); go_simp; try with_reducible rfl); (try go_simp); refine hK _ ?_; clear hK K)
            (refine wpC_read rfl (keep2 (by decide) (by decide)) (fun K hK => ?_); apply Exists.intro; refine ⟨fun _ w' _ hC => ?_, ?_⟩; ((have hC := hC.2; skip); go_simp; try with_reducible rfl); (try go_simp); refine hK _ ?_; clear hK K)
            (refine wpC_read rfl (keep2 (by decide) (by decide)) (fun K hK => ?_); apply Exists.intro; refine ⟨fun _ w' _ hC => ?_, ?_⟩; ((have hC := hC.2; have q1 := hC.2.2.2.2.2; clear hC); go_simp; try with_reducible rfl); (try go_simp); refine hK _ ?_; clear hK K)
            refine wpC_callp rfl (by decide) (by decide) (Value.int .i64 ev )  9  ( #[.pointer (some ⟨b, 0, none⟩), .int .i64 a2, .int .i64 a3, .int .i64 a4]) (fun w' => by go_simp) (fun w' qq hC => ?_) (fun K hK => ?_)
            · refine (sayR_at b br bp s a2 a3 a4 w' f2 f3 f4 hC.1 HFM.out).mono ?_
              rintro e w2 ⟨rfl, hm2, hc2⟩
              refine ⟨by rw [HOK.out], hC.memo hm2 hc2 (fun k hk => .inl (by have := HK.out; omega)) (by have := HK.out; have := HWR.out; omega) (fun k hk => by have := HB.out; omega)⟩
            ((try go_simp); refine hK _ ?_; clear hK K)
            (refine wpC_read rfl (keep2 (by decide) (by decide)) (fun K hK => ?_); apply Exists.intro; refine ⟨fun _ w' _ hC => ?_, ?_⟩; ((have hC := hC.2; skip); go_simp; try with_reducible rfl); (try go_simp); refine hK _ ?_; clear hK K)
            (refine wpC_read rfl (keep2 (by decide) (by decide)) (fun K hK => ?_); apply Exists.intro; refine ⟨fun _ w' _ hC => ?_, ?_⟩; ((have hC := hC.2; skip); go_simp; try with_reducible rfl); (try go_simp); refine hK _ ?_; clear hK K)
            (refine wpC_read rfl (keep2 (by decide) (by decide)) (fun K hK => ?_); apply Exists.intro; refine ⟨fun _ w' _ hC => ?_, ?_⟩; ((have hC := hC.2; have q1 := hC.2.2.2.1; clear hC); go_simp; try with_reducible rfl); (try go_simp); refine hK _ ?_; clear hK K)
            (refine wpC_read rfl (keep2 (by decide) (by decide)) (fun K hK => ?_); apply Exists.intro; refine ⟨fun _ w' _ hC => ?_, ?_⟩; ((have hC := hC.2; skip); go_simp; try with_reducible rfl); (try go_simp); refine hK _ ?_; clear hK K)
            (refine wpC_read rfl (keep2 (by decide) (by decide)) (fun K hK => ?_); apply Exists.intro; refine ⟨fun _ w' _ hC => ?_, ?_⟩; ((have hC := hC.2; have q1 := hC.2.2.2.2.1; clear hC); go_simp; try with_reducible rfl); (try go_simp); refine hK _ ?_; clear hK K)
            (refine wpC_read rfl (keep2 (by decide) (by decide)) (fun K hK => ?_); apply Exists.intro; refine ⟨fun _ w' _ hC => ?_, ?_⟩; ((have hC := hC.2; skip); go_simp; try with_reducible rfl); (try go_simp); refine hK _ ?_; clear hK K)
            (refine wpC_read rfl (keep2 (by decide) (by decide)) (fun K hK => ?_); apply Exists.intro; refine ⟨fun _ w' _ hC => ?_, ?_⟩; ((have hC := hC.2; have q1 := hC.2.2.2.2.2; clear hC); go_simp; try with_reducible rfl); (try go_simp); refine hK _ ?_; clear hK K)
            refine wpC_callq rfl (by decide) (by decide) (Value.int .i64 ev )  10  ( #[.pointer (some ⟨d, 0, none⟩), .int .i64 a2, .int .i64 a3, .int .i64 a4]) (fun w' => by go_simp) (fun w' qq hC => ?_) (fun K hK => ?_)
            · refine (refSayR_at (fun j => j < d ∨ j = wr.heap.size) d r a2 a3 a4 w' hC.2.1 HFR.out).mono ?_
              rintro e w2 ⟨rfl, hm2, hc2⟩
              refine ⟨by rw [HOKR.out], hC.ref hm2 hc2 ⟨.inl HK.out.2.1, .inl HK.out.2.2.1, .inl HK.out.2.2.2, .inr rfl⟩ (fun k hk => by have := HK.out; omega)⟩
            ((try go_simp); refine hK _ ?_; clear hK K)
            (refine wpC_read rfl (keep2 (by decide) (by decide)) (fun K hK => ?_); apply Exists.intro; refine ⟨fun _ w' _ hC => ?_, ?_⟩; ((have hC := hC.2; skip); go_simp; try with_reducible rfl); (try go_simp); refine hK _ ?_; clear hK K)
            refine wpC_nil ?_
            intro w2 hC2
            have HC2 := Lib.hid hC2
            clear hC2
            go_wp2
            go_meet
            obtain ⟨m1, m2, m3, m4, m5, m6⟩ := HC2.out
            exact ⟨_, _, HS.out.sayR a2 a3 a4, HBD.out.midR a2 a3 a4, m1, m2, m3, m4, m5, m6⟩
        have b0 : (a1 % 16 == 0) = false := by simp; omega
        have b1 : (a1 % 16 == 1) = false := by simp; omega
        have b2 : (a1 % 16 == 2) = false := by simp; omega
        have b3 : (a1 % 16 == 3) = false := by simp; omega
        by_cases hB : a1 % 16 ≤ 7
        · obtain ⟨ev, he1, he2⟩ : ∃ ev : Int, errOf (s.okP a2 a3 a4) = .int .i64 ev ∧ (if r.okP a2 a3 a4 then (0 : Int) else 1) = ev := ⟨_, rfl, by rw [HS.out.okP]⟩
          have HOK := Lib.hid he1
          have HOKR := Lib.hid he2
          clear he1 he2
          have hcase : ((a1 % 16 == 4) = true) ∨ ((a1 % 16 == 4) = false ∧ (a1 % 16 == 5) = true) ∨ ((a1 % 16 == 4) = false ∧ (a1 % 16 == 5) = false ∧ (a1 % 16 == 6) = true) ∨ ((a1 % 16 == 4) = false ∧ (a1 % 16 == 5) = false ∧ (a1 % 16 == 6) = false ∧ (a1 % 16 == 7) = true) := by
            rcases (by omega : a1 % 16 = 4 ∨ a1 % 16 = 5 ∨ a1 % 16 = 6 ∨ a1 % 16 = 7) with h | h | h | h <;> simp [h]
          clear hA hB
          rcases hcase with b4 | ⟨b4, b5⟩ | ⟨b4, b5, b6⟩ | ⟨b4, b5, b6, b7⟩
          all_goals
            go_wp2_with fail
            refine wp_region_two (InRound w b br bp d wr.heap.size (fun j => j < d ∨ j = wr.heap.size) a2 a3 a4 s (s.sayP a2 a3 a4) r (r.sayP a2 a3 a4) )  7   15 (by kernel_rfl) (by kernel_rfl) (by kernel_rfl) ?_ ?_
            · exact (HW.out _ _).drew
            (refine wpC_read rfl (keep2 (by decide) (by decide)) (fun K hK => ?_); apply Exists.intro; refine ⟨fun _ w' _ hC => ?_, ?_⟩; ((have hC := hC.2; skip); go_simp; try with_reducible rfl); (try go_simp); refine hK _ ?_; clear hK K)
            (refine wpC_read rfl (keep2 (by decide) (by decide)) (fun K hK => ?_); apply Exists.intro; refine ⟨fun _ w' _ hC => ?_, ?_⟩; ((have hC := hC.2; skip); go_simp; try with_reducible rfl); (try go_simp); refine hK _ ?_; clear hK K)
            (refine wpC_read rfl (keep2 (by decide) (by decide)) (fun K hK => ?_); apply Exists.intro; refine ⟨fun _ w' _ hC => ?_, ?_⟩; ((have hC := hC.2; have q1 := hC.2.2.2.1; clear hC); go_simp; try with_reducible rfl); (try go_simp); refine hK _ ?_; clear hK K)
            (refine wpC_read rfl (keep2 (by decide) (by decide)) (fun K hK => ?_); apply Exists.intro; refine ⟨fun _ w' _ hC => ?_, ?_⟩; ((have hC := hC.2; skip); go_simp; try with_reducible rfl); (try go_simp); refine hK _ ?_; clear hK K)
            (refine wpC_read rfl (keep2 (by decide) (by decide)) (fun K hK => ?_); apply Exists.intro; refine ⟨fun _ w' _ hC => ?_, ?_⟩; ((have hC := hC.2; have q1 := hC.2.2.2.2.1; clear hC); go_simp; try with_reducible rfl); (try go_simp); refine hK _ ?_; clear hK K)
            (refine wpC_read rfl (keep2 (by decide) (by decide)) (fun K hK => ?_); apply Exists.intro; refine ⟨fun _ w' _ hC => ?_, ?_⟩; ((have hC := hC.2; skip); go_simp; try with_reducible rfl); (try go_simp); refine hK _ ?_; clear hK K)
            (refine wpC_read rfl (keep2 (by decide) (by decide)) (fun K hK => ?_); apply Exists.intro; refine ⟨fun _ w' _ hC => ?_, ?_⟩; ((have hC := hC.2; have q1 := hC.2.2.2.2.2; clear hC); go_simp; try with_reducible rfl); (try go_simp); refine hK _ ?_; clear hK K)
            refine wpC_callp rfl (by decide) (by decide) (Value.int .i64 ev )  11  ( #[.pointer (some ⟨b, 0, none⟩), .int .i64 a2, .int .i64 a3, .int .i64 a4]) (fun w' => by go_simp) (fun w' qq hC => ?_) (fun K hK => ?_)
            · refine (sayP_at b br bp s a2 a3 a4 w' f2 f3 f4 hC.1 HFM.out).mono ?_
              rintro e w2 ⟨rfl, hm2, hc2⟩
              refine ⟨by rw [HOK.out], hC.memo hm2 hc2 (fun k hk => .inl (by have := HK.out; omega)) (by have := HK.out; have := HWR.out; omega) (fun k hk => by have := HB.out; omega)⟩
            ((try go_simp); refine hK _ ?_; clear hK K)
            (refine wpC_read rfl (keep2 (by decide) (by decide)) (fun K hK => ?_); apply Exists.intro; refine ⟨fun _ w' _ hC => ?_, ?_⟩; ((have hC := hC.2; skip); go_simp; try with_reducible rfl); (try go_simp); refine hK _ ?_; clear hK K)
            (refine wpC_read rfl (keep2 (by decide) (by decide)) (fun K hK => ?_); apply Exists.intro; refine ⟨fun _ w' _ hC => ?_, ?_⟩; ((have hC := hC.2; skip); go_simp; try with_reducible rfl); (try go_simp); refine hK _ ?_; clear hK K)
            (refine wpC_read rfl (keep2 (by decide) (by decide)) (fun K hK => ?_); apply Exists.intro; refine ⟨fun _ w' _ hC => ?_, ?_⟩; ((have hC := hC.2; have q1 := hC.2.2.2.1; clear hC); go_simp; try with_reducible rfl); (try go_simp); refine hK _ ?_; clear hK K)
            (refine wpC_read rfl (keep2 (by decide) (by decide)) (fun K hK => ?_); apply Exists.intro; refine ⟨fun _ w' _ hC => ?_, ?_⟩; ((have hC := hC.2; skip); go_simp; try with_reducible rfl); (try go_simp); refine hK _ ?_; clear hK K)
            (refine wpC_read rfl (keep2 (by decide) (by decide)) (fun K hK => ?_); apply Exists.intro; refine ⟨fun _ w' _ hC => ?_, ?_⟩; ((have hC := hC.2; have q1 := hC.2.2.2.2.1; clear hC); go_simp; try with_reducible rfl); (try go_simp); refine hK _ ?_; clear hK K)
            (refine wpC_read rfl (keep2 (by decide) (by decide)) (fun K hK => ?_); apply Exists.intro; refine ⟨fun _ w' _ hC => ?_, ?_⟩; ((have hC := hC.2; skip); go_simp; try with_reducible rfl); (try go_simp); refine hK _ ?_; clear hK K)
            (refine wpC_read rfl (keep2 (by decide) (by decide)) (fun K hK => ?_); apply Exists.intro; refine ⟨fun _ w' _ hC => ?_, ?_⟩; ((have hC := hC.2; have q1 := hC.2.2.2.2.2; clear hC); go_simp; try with_reducible rfl); (try go_simp); refine hK _ ?_; clear hK K)
            refine wpC_callq rfl (by decide) (by decide) (Value.int .i64 ev )  12  ( #[.pointer (some ⟨d, 0, none⟩), .int .i64 a2, .int .i64 a3, .int .i64 a4]) (fun w' => by go_simp) (fun w' qq hC => ?_) (fun K hK => ?_)
            · refine (refSayP_at (fun j => j < d ∨ j = wr.heap.size) d r a2 a3 a4 w' hC.2.1 HFR.out).mono ?_
              rintro e w2 ⟨rfl, hm2, hc2⟩
              refine ⟨by rw [HOKR.out], hC.ref hm2 hc2 ⟨.inl HK.out.2.1, .inl HK.out.2.2.1, .inl HK.out.2.2.2, .inr rfl⟩ (fun k hk => by have := HK.out; omega)⟩
            ((try go_simp); refine hK _ ?_; clear hK K)
            (refine wpC_read rfl (keep2 (by decide) (by decide)) (fun K hK => ?_); apply Exists.intro; refine ⟨fun _ w' _ hC => ?_, ?_⟩; ((have hC := hC.2; skip); go_simp; try with_reducible rfl); (try go_simp); refine hK _ ?_; clear hK K)
            refine wpC_nil ?_
            intro w2 hC2
            have HC2 := Lib.hid hC2
            clear hC2
            go_wp2
            go_meet
            obtain ⟨m1, m2, m3, m4, m5, m6⟩ := HC2.out
            exact ⟨_, _, HS.out.sayP a2 a3 a4, HBD.out.midP a2 a3 a4, m1, m2, m3, m4, m5, m6⟩
        have b4 : (a1 % 16 == 4) = false := by simp; omega
        have b5 : (a1 % 16 == 5) = false := by simp; omega
        have b6 : (a1 % 16 == 6) = false := by simp; omega
        have b7 : (a1 % 16 == 7) = false := by simp; omega
        clear hA hB
        by_cases hC : a1 % 16 = 8
        · have b8 : (a1 % 16 == 8) = true := by simpa using hC
          clear hC
          go_wp2_with fail
          · refine (clear_at b br bp s _ (by simpa using HW0.out.1)).mono ?_
            rintro e w2 ⟨rfl, hm2, hc2⟩
            have HX := Lib.hid (InRound.memo (HW.out s.cleared r.cleared) hm2 hc2 (fun k hk => .inl (by have := HK.out; omega)) (by have := HK.out; have := HWR.out; omega) (fun k hk => by have := HB.out; omega))
            clear hm2 hc2
            go_wp2_with fail
            refine (refClear_at (fun j => j < d ∨ j = wr.heap.size) d r w2 HX.out.2.1).mono ?_
            rintro e w3 ⟨rfl, hm3, hc3⟩
            have HY := Lib.hid (InRound.ref HX.out hm3 hc3 ⟨.inl HK.out.2.1, .inl HK.out.2.2.1, .inl HK.out.2.2.2, .inr rfl⟩ (fun k hk => by have := HK.out; omega))
            clear hm3 hc3
            go_wp2
            go_meet
            obtain ⟨m1, m2, m3, m4, m5, m6⟩ := HY.out
            exact ⟨s.cleared, r.cleared, HS.out.cleared, (Bd.cleared s r).mid, m1, m2, m3, m4, m5, m6⟩
          · go_wp2
            go_meet
            obtain ⟨m1, m2, m3, m4, m5, m6⟩ := HW0.out
            exact ⟨s, r, HS.out, HBD.out.mid, by simpa using m1, by simpa using m2, m3, m4, m5, m6⟩
        · have b8 : (a1 % 16 == 8) = false := by simpa using hC
          clear hC
          go_wp2
          go_meet
          obtain ⟨m1, m2, m3, m4, m5, m6⟩ := HW0.out
          exact ⟨s, r, HS.out, HBD.out.mid, by simpa using m1, by simpa using m2, m3, m4, m5, m6⟩
      case rest =>
        obtain ⟨s', r', hs, hmid, hm, hr, hc, x1, x2, x3⟩ := hcut
        have HWR : Hid (d ≤ wr.heap.size) := Lib.hid (by obtain ⟨vR, vP, h⟩ := HR.out; exact Nat.le_of_lt (World.block_lt_of_cell? _ _ h.c0))
        have HS' := Lib.hid hs
        have HMID := Lib.hid hmid
        have HC' := Lib.hid hc
        have HF := Lib.hid (hmid.fine (by omega))
        have HFR := Lib.hid (hmid.fineR hs (by omega))
        have HR0 := Lib.hid hr
        have HM0 := Lib.hid hm
        have hxb : wr.heap.size ≠ b := by have := HK.out; have := HWR.out; omega
        have hxN : ¬ ¬ (wr.heap.size < d ∨ wr.heap.size = wr.heap.size) := fun h => h (.inr rfl)
        have hbN : ¬ ¬ (b < d ∨ b = wr.heap.size) := fun h => h (.inl HK.out.2.1)
        have hbrN : ¬ ¬ (br < d ∨ br = wr.heap.size) := fun h => h (.inl HK.out.2.2.1)
        have hbpN : ¬ ¬ (bp < d ∨ bp = wr.heap.size) := fun h => h (.inl HK.out.2.2.2)
        have HX : Hid (wr.heap.size ≠ b ∧ (¬ ¬ (wr.heap.size < d ∨ wr.heap.size = wr.heap.size)) ∧ (¬ ¬ (b < d ∨ b = wr.heap.size)) ∧ (¬ ¬ (br < d ∨ br = wr.heap.size)) ∧ (¬ ¬ (bp < d ∨ bp = wr.heap.size))) := Lib.hid ⟨hxb, hxN, hbN, hbrN, hbpN⟩
        have HCM : Hid (∀ W W', Chg (fun j => w.heap.size ≤ j) w W → Chg (· = b) W W' → Chg (fun j => w.heap.size ≤ j) w W') := Lib.hid fun W W' h1 h2 => h1.trans (h2.mono (fun j _ e => by have := HB.out; omega))
        have HCR : Hid (∀ W W', Chg (fun j => w.heap.size ≤ j) w W → Chg (fun j => ¬ (j < d ∨ j = wr.heap.size)) W W' → Chg (fun j => w.heap.size ≤ j) w W') := Lib.hid fun W W' h1 h2 => h1.trans (h2.mono (fun j _ e => by have := HK.out; omega))
        obtain ⟨va, fa, hea, hea1, hea2⟩ : ∃ va fa, ansOf (hasB s'.nr s'.nt a2 a3) (s'.R a2 a3) = .tuple #[.int .i64 va, .bool fa] ∧ valOf (hasB r'.nr r'.nt a2 a3) (findL r'.R a2 a3) = va ∧ flagOf (hasB r'.nr r'.nt a2 a3) (findL r'.R a2 a3) = fa :=
          ⟨_, _, rfl, (hs.ans a2 a3).1.symm, (hs.ans a2 a3).2.1.symm⟩
        obtain ⟨vb, fb, heb, heb1, heb2⟩ : ∃ vb fb, ansOf (hasB (s'.askR a2 a3).np (s'.askR a2 a3).nt a2 a3) ((s'.askR a2 a3).P a2 a3) = .tuple #[.int .i64 vb, .bool fb] ∧ valOf (hasB (r'.askR a2 a3).np (r'.askR a2 a3).nt a2 a3) (findL (r'.askR a2 a3).P a2 a3) = vb ∧ flagOf (hasB (r'.askR a2 a3).np (r'.askR a2 a3).nt a2 a3) (findL (r'.askR a2 a3).P a2 a3) = fb :=
          ⟨_, _, rfl, ((hs.askR a2 a3).ans a2 a3).2.2.1.symm, ((hs.askR a2 a3).ans a2 a3).2.2.2.symm⟩
        have HE : Hid (_ ∧ _ ∧ _) := Lib.hid ⟨hea, hea1, hea2⟩
        have HE' : Hid (_ ∧ _ ∧ _) := Lib.hid ⟨heb, heb1, heb2⟩
        have HS2 := Lib.hid ((hs.askR a2 a3).askP a2 a3)
        clear hs hmid hm hr hc hea hea1 hea2 heb heb1 heb2 hxb hxN hbN hbrN hbpN p0 p1 p2 p3 x3
        go_wp2_with fail
        refine (ruleR_at b br bp s' a2 a3 wc f2 f3 HM0.out HF.out.1).mono ?_
        rintro e v1 ⟨rfl, hm1, hc1⟩
        rw [HE.out.1]
        have HM1 := Lib.hid hm1
        have HR1 := Lib.hid (HR0.out.chg hc1 (fun k hk => by subst hk; exact .inl HK.out.2.1))
        have HC1 := Lib.hid (HCM.out _ _ HC'.out hc1)
        have x1 := hc1.cellS x1 HX.out.1
        have x2 := hc1.cellS x2 HX.out.1
        clear hm1 hc1 HM0 HR0 HC'
        go_wp2_with fail
        refine (refRuleR_at _ d r' a2 a3 v1 HR1.out HFR.out.1).mono ?_
        rintro e v2 ⟨rfl, hr2, hc2⟩
        rw [HE.out.2.1, HE.out.2.2]
        have HR2 := Lib.hid hr2
        have HM2 := Lib.hid (HM1.out.chg hc2 HX.out.2.2.1 HX.out.2.2.2.1 HX.out.2.2.2.2)
        have HC2 := Lib.hid (HCR.out _ _ HC1.out hc2)
        have x1 := hc2.cellS x1 (fun h => h (.inr rfl))
        have x2 := hc2.cellS x2 (fun h => h (.inr rfl))
        clear hr2 hc2 HM1 HR1 HC1
        go_wp2_with fail
        refine (ruleP_at b br bp (s'.askR a2 a3) a2 a3 v2 f2 f3 HM2.out (HF.out.2 a2 a3)).mono ?_
        rintro e v3 ⟨rfl, hm3, hc3⟩
        rw [HE'.out.1]
        have HM3 := Lib.hid hm3
        have HR3 := Lib.hid (HR2.out.chg hc3 (fun k hk => by subst hk; exact .inl HK.out.2.1))
        have HC3 := Lib.hid (HCM.out _ _ HC2.out hc3)
        have x1 := hc3.cellS x1 HX.out.1
        have x2 := hc3.cellS x2 HX.out.1
        clear hm3 hc3 HM2 HR2 HC2
        go_wp2_with fail
        refine (refRuleP_at _ d (r'.askR a2 a3) a2 a3 v3 HR3.out (HFR.out.2 a2 a3)).mono ?_
        rintro e v4 ⟨rfl, hr4, hc4⟩
        rw [HE'.out.2.1, HE'.out.2.2]
        have HR4 := Lib.hid hr4
        have HM4 := Lib.hid (HM3.out.chg hc4 HX.out.2.2.1 HX.out.2.2.2.1 HX.out.2.2.2.2)
        have HC4 := Lib.hid (HCR.out _ _ HC3.out hc4)
        clear hr4 hc4 HM3 HR3 HC3 x1 x2
        go_wp2_with fail
        refine (counts_at b br bp _ v4 HM4.out).mono ?_
        rintro e v5 ⟨rfl, hm5, hc5⟩
        rw [HS2.out.asked, HS2.out.known]
        have HM5 := Lib.hid hm5
        have HR5 := Lib.hid (HR4.out.chg hc5 (fun _ h => h.elim))
        have HC5 := Lib.hid (HC4.out.trans (hc5.mono (fun _ _ h => h.elim)))
        obtain ⟨c5, c6⟩ : v5.cell? ⟨d, 5, none⟩ = some (.int .i64 ((r'.askR a2 a3).askP a2 a3).asked) ∧ v5.cell? ⟨d, 6, none⟩ = some (.int .i64 ((r'.askR a2 a3).askP a2 a3).known) := by
          obtain ⟨vR, vP, h⟩ := HR5.out
          exact ⟨h.c5, h.c6⟩
        clear hm5 hc5 HM4 HR4 HC4
        go_wp2
        go_roundw
        case rel => exact ⟨k + 1, _, _, by omega, by go_num, HS2.out, HMID.out.next a2 a3, HM5.out, HR5.out.less (fun j hj => .inl hj), HC5.out⟩
        case measure => simp [intOf]; omega
    · have : k = A.length := by omega
      subst this
      go_wp2_with fail
      refine (lives_any wr).mono ?_
      rintro e w2 ⟨rfl, hc2⟩
      have HC2 := Lib.hid (HC.out.trans (hc2.mono (fun _ _ h => h.elim)))
      clear hc2
      go_wp2
      go_ret
      exact ⟨rfl, ⟨HC2.out.os, HC2.out.tape, HC2.out.output, HC2.out.size, fun k hk _ => HC2.out.block k hk (by omega)⟩⟩
end Go.Proofs.Ytoicneeecokglaa
