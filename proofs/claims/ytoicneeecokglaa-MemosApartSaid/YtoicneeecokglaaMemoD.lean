/- The memo's own functions: what is said of a rule, of a decision. -/
import Derived.Test.YtoicneeecokglaaMemoC
namespace Go.Proofs.Ytoicneeecokglaa
open Go.RowKit Go.Maps

def MS.okR (s : MS) (x y z : Int) : Bool := hasB s.nr s.nt x y && !(z != -1 && decide (z < y)) && !(decide (s.nt < z))
def MS.okP (s : MS) (x y z : Int) : Bool := hasB s.np s.nt x y && !(decide (z < -1)) && !(decide (32 ≤ z))
def MS.sayR (s : MS) (x y z : Int) : MS := if s.okR x y z then { s with R := sayF s.R x y z, sz := s.sz + 1 } else s
def MS.sayP (s : MS) (x y z : Int) : MS := if s.okP x y z then { s with P := sayF s.P x y z, sz := s.sz + 1 } else s
def errOf (ok : Bool) : Value := .int .i64 (if ok then 0 else 1)

theorem MemoAt.saidR {w w' : World} {b br bp : Nat} {s : MS} (h : MemoAt w b br bp s) {f : Int → Int → Option Int} (hm : MapIs w' br f (s.sz + 1)) (hc : Chg (· = br) w w') : MemoAt w' b br bp { s with R := f, sz := s.sz + 1 } := by
  have hb : b < w.heap.size := World.block_lt_of_cell? _ _ h.c0
  have h1 : ¬ b = br := fun e => h.d1 e.symm
  exact ⟨hc.cellS h.c0 h1, hc.cellS h.c1 h1, hc.cellS h.c2 h1, hc.cellS h.c3 h1, hc.cellS h.c4 h1, hc.cellS h.c5 h1, hc.cellS h.c6 h1,
    (hc.frozen hb h1).trans h.f5, (hc.frozen hb h1).trans h.f6, hm, (h.mp.chg hc (fun e => h.d3 e.symm)).mono (Nat.le_succ _), h.d1, h.d2, h.d3⟩
theorem MemoAt.saidP {w w' : World} {b br bp : Nat} {s : MS} (h : MemoAt w b br bp s) {f : Int → Int → Option Int} (hm : MapIs w' bp f (s.sz + 1)) (hc : Chg (· = bp) w w') : MemoAt w' b br bp { s with P := f, sz := s.sz + 1 } := by
  have hb : b < w.heap.size := World.block_lt_of_cell? _ _ h.c0
  have h1 : ¬ b = bp := fun e => h.d2 e.symm
  exact ⟨hc.cellS h.c0 h1, hc.cellS h.c1 h1, hc.cellS h.c2 h1, hc.cellS h.c3 h1, hc.cellS h.c4 h1, hc.cellS h.c5 h1, hc.cellS h.c6 h1,
    (hc.frozen hb h1).trans h.f5, (hc.frozen hb h1).trans h.f6, (h.mr.chg hc (fun e => h.d3 e)).mono (Nat.le_succ _), hm, h.d1, h.d2, h.d3⟩

set_option maxHeartbeats 2000000 in
theorem sayR_at (b br bp : Nat) (s : MS) (x y z : Int) (w : World) (hx : W64 x) (hy : W64 y) (hz : W64 z) (H : MemoAt w b br bp s) (hF : s.Fine) :
    Calls Try.prog 9 #[.pointer (some ⟨b, 0, none⟩), .int .i64 x, .int .i64 y, .int .i64 z] w fun e w' => e = .returned (errOf (s.okR x y z)) ∧ MemoAt w' b br bp (s.sayR x y z) ∧ Chg (· = br) w w' := by
  have hlt : b < w.heap.size := World.block_lt_of_cell? _ _ H.c0
  obtain ⟨o, ho⟩ : ∃ o, o = Obj.cells #[.int .i64 x, .int .i64 y] 62 := ⟨_, rfl⟩
  have HC0 := Lib.hid ((Chg.refl (fun _ => False) w).alloc o)
  have HM0 := Lib.hid (H.chg HC0.out (fun h => h) (fun h => h) (fun h => h))
  have k1 := HM0.out.c1
  have k4 := HM0.out.c4
  have kx : (w.alloc o).cell? ⟨w.heap.size, 0, none⟩ = some (.int .i64 x) := by subst ho; exact World.cell?_alloc_new _ _ _ _
  have ky : (w.alloc o).cell? ⟨w.heap.size, 1, none⟩ = some (.int .i64 y) := by subst ho; exact World.cell?_alloc_new _ _ _ _
  have HT := Lib.hid (there_at b (some br) _ k1)
  by_cases hB : hasB s.nr s.nt x y = true
  · have HBB := Lib.hid hB
    clear hB
    by_cases h1 : z = -1
    · have q1 : (z != -1) = false := by simpa using h1
      by_cases h2 : s.nt < z
      · have hok : s.okR x y z = false := by simp [MS.okR, h2]
        have e1 : s.sayR x y z = s := by simp [MS.sayR, hok]
        rw [hok, e1, show errOf false = .int .i64 1 from rfl]
        clear hok e1 h1
        subst ho
        go_enter Try.func9, Try.ntmps9
        go_wp2_with fail
        refine HT.out.mono ?_
        rintro e w1 ⟨rfl, rfl⟩
        go_wp2_with fail
        refine wp_region_same (fun w' => Chg (fun _ => False) (w.alloc (Obj.cells #[.int .i64 x, .int .i64 y] 62)) w') (by kernel_rfl) (by kernel_rfl) ?_ ?_
        · exact (Chg.refl _ _).drew
        (refine wpC_read rfl (fun _ _ _ h => h) (fun K hK => ?_); apply Exists.intro; refine ⟨fun _ w' _ hC => ?_, ?_⟩; ((skip); go_simp; try with_reducible rfl); (try go_simp); refine hK _ ?_; clear hK K)
        (refine wpC_read rfl (fun _ _ _ h => h) (fun K hK => ?_); apply Exists.intro; refine ⟨fun _ w' _ hC => ?_, ?_⟩; ((skip); go_simp; try with_reducible rfl); (try go_simp); refine hK _ ?_; clear hK K)
        (refine wpC_read rfl (fun _ _ _ h => h) (fun K hK => ?_); apply Exists.intro; refine ⟨fun _ w' _ hC => ?_, ?_⟩; ((skip); go_simp; try with_reducible rfl); (try go_simp); refine hK _ ?_; clear hK K)
        (refine wpC_read rfl (fun _ _ _ h => h) (fun K hK => ?_); apply Exists.intro; refine ⟨fun _ w' _ hC => ?_, ?_⟩; ((skip); go_simp; try with_reducible rfl); (try go_simp); refine hK _ ?_; clear hK K)
        (refine wpC_read rfl (fun _ _ _ h => h) (fun K hK => ?_); apply Exists.intro; refine ⟨fun _ w' _ hC => ?_, ?_⟩; ((have q1 := hC.cellS kx (fun h => h); have q2 := hC.cellS ky (fun h => h)); go_simp; try with_reducible rfl); (try go_simp); refine hK _ ?_; clear hK K)
        refine wpC_call rfl (.bool true )  21  ( #[.pointer (some ⟨b, 0, none⟩), .pointer (some ⟨b, 0, none⟩), .agg #[.int .i64 x, .int .i64 y]]) (fun w' => by go_simp) (fun _ w' _ hC => ?_) (fun K hK => ?_)
        · refine (has_any b b 0 x y s.nr s.nt w' (hC.cellS HM0.out.c0 (fun h => h)) (hC.cellS k4 (fun h => h))).mono ?_
          rintro e w2 ⟨rfl, hc2⟩
          exact ⟨by rw [HBB.out], hC.trans hc2⟩
        ((try go_simp); refine hK _ ?_; clear hK K)
        (refine wpC_read rfl (fun _ _ _ h => h) (fun K hK => ?_); apply Exists.intro; refine ⟨fun _ w' _ hC => ?_, ?_⟩; ((skip); go_simp; try with_reducible rfl); (try go_simp); refine hK _ ?_; clear hK K)
        (refine wpC_read rfl (fun _ _ _ h => h) (fun K hK => ?_); apply Exists.intro; refine ⟨fun _ w' _ hC => ?_, ?_⟩; ((skip); go_simp; try with_reducible rfl); (try go_simp); refine hK _ ?_; clear hK K)
        refine wpC_nil ?_
        intro w2 hC2
        have HC2 := Lib.hid (HC0.out.trans hC2)
        have HM2 := Lib.hid (HM0.out.chg hC2 (fun h => h) (fun h => h) (fun h => h))
        have m4 := HM2.out.c4
        have mx := hC2.cellS kx (fun h => h)
        have my := hC2.cellS ky (fun h => h)
        clear hC2 k1 k4 kx ky
        go_wp2
        go_ret
        exact ⟨rfl, HM2.out, HC2.out.mono (fun _ _ h => h.elim)⟩
      · have hok : s.okR x y z = true := by simp only [MS.okR, HBB.out, h1]; simp; omega
        have e1 : s.sayR x y z = { s with R := sayF s.R x y z, sz := s.sz + 1 } := by simp [MS.sayR, hok]
        have E1 := Lib.hid e1
        rw [hok, show errOf true = .int .i64 0 from rfl]
        clear hok e1 h1
        subst ho
        go_enter Try.func9, Try.ntmps9
        go_wp2_with fail
        refine HT.out.mono ?_
        rintro e w1 ⟨rfl, rfl⟩
        go_wp2_with fail
        refine wp_region_same (fun w' => Chg (fun _ => False) (w.alloc (Obj.cells #[.int .i64 x, .int .i64 y] 62)) w') (by kernel_rfl) (by kernel_rfl) ?_ ?_
        · exact (Chg.refl _ _).drew
        (refine wpC_read rfl (fun _ _ _ h => h) (fun K hK => ?_); apply Exists.intro; refine ⟨fun _ w' _ hC => ?_, ?_⟩; ((skip); go_simp; try with_reducible rfl); (try go_simp); refine hK _ ?_; clear hK K)
        (refine wpC_read rfl (fun _ _ _ h => h) (fun K hK => ?_); apply Exists.intro; refine ⟨fun _ w' _ hC => ?_, ?_⟩; ((skip); go_simp; try with_reducible rfl); (try go_simp); refine hK _ ?_; clear hK K)
        (refine wpC_read rfl (fun _ _ _ h => h) (fun K hK => ?_); apply Exists.intro; refine ⟨fun _ w' _ hC => ?_, ?_⟩; ((skip); go_simp; try with_reducible rfl); (try go_simp); refine hK _ ?_; clear hK K)
        (refine wpC_read rfl (fun _ _ _ h => h) (fun K hK => ?_); apply Exists.intro; refine ⟨fun _ w' _ hC => ?_, ?_⟩; ((skip); go_simp; try with_reducible rfl); (try go_simp); refine hK _ ?_; clear hK K)
        (refine wpC_read rfl (fun _ _ _ h => h) (fun K hK => ?_); apply Exists.intro; refine ⟨fun _ w' _ hC => ?_, ?_⟩; ((have q1 := hC.cellS kx (fun h => h); have q2 := hC.cellS ky (fun h => h)); go_simp; try with_reducible rfl); (try go_simp); refine hK _ ?_; clear hK K)
        refine wpC_call rfl (.bool true )  21  ( #[.pointer (some ⟨b, 0, none⟩), .pointer (some ⟨b, 0, none⟩), .agg #[.int .i64 x, .int .i64 y]]) (fun w' => by go_simp) (fun _ w' _ hC => ?_) (fun K hK => ?_)
        · refine (has_any b b 0 x y s.nr s.nt w' (hC.cellS HM0.out.c0 (fun h => h)) (hC.cellS k4 (fun h => h))).mono ?_
          rintro e w2 ⟨rfl, hc2⟩
          exact ⟨by rw [HBB.out], hC.trans hc2⟩
        ((try go_simp); refine hK _ ?_; clear hK K)
        (refine wpC_read rfl (fun _ _ _ h => h) (fun K hK => ?_); apply Exists.intro; refine ⟨fun _ w' _ hC => ?_, ?_⟩; ((skip); go_simp; try with_reducible rfl); (try go_simp); refine hK _ ?_; clear hK K)
        (refine wpC_read rfl (fun _ _ _ h => h) (fun K hK => ?_); apply Exists.intro; refine ⟨fun _ w' _ hC => ?_, ?_⟩; ((skip); go_simp; try with_reducible rfl); (try go_simp); refine hK _ ?_; clear hK K)
        refine wpC_nil ?_
        intro w2 hC2
        have HC2 := Lib.hid (HC0.out.trans hC2)
        have HM2 := Lib.hid (HM0.out.chg hC2 (fun h => h) (fun h => h) (fun h => h))
        have m4 := HM2.out.c4
        have mx := hC2.cellS kx (fun h => h)
        have my := hC2.cellS ky (fun h => h)
        clear hC2 k1 k4 kx ky
        go_wp2_with fail
        (refine stillTail 5 (by kernel_rfl) (by kernel_rfl) ?_; simp only [List.take_succ_cons, List.take_zero, List.drop_succ_cons, List.drop_zero]; (repeat still_step); refine wpStill_nil ?_)
        go_wp2_with fail
        have mc := (HM2.out.drewN 1).c1
        have hn : s.sz < maxLen := by have := hF.sz; unfold maxLen; omega
        refine (say_any b 0 br s.sz s.R x y z _ hx hy hz mc (HM2.out.drewN 1).mr hn).mono ?_
        rintro e w3 ⟨rfl, hm3, hc3⟩
        have HM3 := Lib.hid ((HM2.out.drewN 1).saidR hm3 hc3)
        have HC3 : Hid (Chg (· = br) w w3) := Lib.hid (((HC2.out.drewN 1).mono (fun _ _ h => h.elim)).trans hc3)
        clear hm3 hc3 mc hn
        go_wp2
        go_ret
        exact ⟨rfl, by rw [E1.out]; exact HM3.out, HC3.out⟩
    · have q1 : (z != -1) = true := by simpa using h1
      by_cases h3 : z < y
      · have hok : s.okR x y z = false := by simp [MS.okR, h3, h1]
        have e1 : s.sayR x y z = s := by simp [MS.sayR, hok]
        rw [hok, e1, show errOf false = .int .i64 1 from rfl]
        clear hok e1 h1
        subst ho
        go_enter Try.func9, Try.ntmps9
        go_wp2_with fail
        refine HT.out.mono ?_
        rintro e w1 ⟨rfl, rfl⟩
        go_wp2_with fail
        refine wp_region_same (fun w' => Chg (fun _ => False) (w.alloc (Obj.cells #[.int .i64 x, .int .i64 y] 62)) w') (by kernel_rfl) (by kernel_rfl) ?_ ?_
        · exact (Chg.refl _ _).drew
        (refine wpC_read rfl (fun _ _ _ h => h) (fun K hK => ?_); apply Exists.intro; refine ⟨fun _ w' _ hC => ?_, ?_⟩; ((skip); go_simp; try with_reducible rfl); (try go_simp); refine hK _ ?_; clear hK K)
        (refine wpC_read rfl (fun _ _ _ h => h) (fun K hK => ?_); apply Exists.intro; refine ⟨fun _ w' _ hC => ?_, ?_⟩; ((skip); go_simp; try with_reducible rfl); (try go_simp); refine hK _ ?_; clear hK K)
        (refine wpC_read rfl (fun _ _ _ h => h) (fun K hK => ?_); apply Exists.intro; refine ⟨fun _ w' _ hC => ?_, ?_⟩; ((skip); go_simp; try with_reducible rfl); (try go_simp); refine hK _ ?_; clear hK K)
        (refine wpC_read rfl (fun _ _ _ h => h) (fun K hK => ?_); apply Exists.intro; refine ⟨fun _ w' _ hC => ?_, ?_⟩; ((skip); go_simp; try with_reducible rfl); (try go_simp); refine hK _ ?_; clear hK K)
        (refine wpC_read rfl (fun _ _ _ h => h) (fun K hK => ?_); apply Exists.intro; refine ⟨fun _ w' _ hC => ?_, ?_⟩; ((have q1 := hC.cellS kx (fun h => h); have q2 := hC.cellS ky (fun h => h)); go_simp; try with_reducible rfl); (try go_simp); refine hK _ ?_; clear hK K)
        refine wpC_call rfl (.bool true )  21  ( #[.pointer (some ⟨b, 0, none⟩), .pointer (some ⟨b, 0, none⟩), .agg #[.int .i64 x, .int .i64 y]]) (fun w' => by go_simp) (fun _ w' _ hC => ?_) (fun K hK => ?_)
        · refine (has_any b b 0 x y s.nr s.nt w' (hC.cellS HM0.out.c0 (fun h => h)) (hC.cellS k4 (fun h => h))).mono ?_
          rintro e w2 ⟨rfl, hc2⟩
          exact ⟨by rw [HBB.out], hC.trans hc2⟩
        ((try go_simp); refine hK _ ?_; clear hK K)
        (refine wpC_read rfl (fun _ _ _ h => h) (fun K hK => ?_); apply Exists.intro; refine ⟨fun _ w' _ hC => ?_, ?_⟩; ((skip); go_simp; try with_reducible rfl); (try go_simp); refine hK _ ?_; clear hK K)
        (refine wpC_read rfl (fun _ _ _ h => h) (fun K hK => ?_); apply Exists.intro; refine ⟨fun _ w' _ hC => ?_, ?_⟩; ((skip); go_simp; try with_reducible rfl); (try go_simp); refine hK _ ?_; clear hK K)
        refine wpC_nil ?_
        intro w2 hC2
        have HC2 := Lib.hid (HC0.out.trans hC2)
        have HM2 := Lib.hid (HM0.out.chg hC2 (fun h => h) (fun h => h) (fun h => h))
        have m4 := HM2.out.c4
        have mx := hC2.cellS kx (fun h => h)
        have my := hC2.cellS ky (fun h => h)
        clear hC2 k1 k4 kx ky
        go_wp2
        go_ret
        exact ⟨rfl, HM2.out, HC2.out.mono (fun _ _ h => h.elim)⟩
      · by_cases h2 : s.nt < z
        · have hok : s.okR x y z = false := by simp [MS.okR, h2]
          have e1 : s.sayR x y z = s := by simp [MS.sayR, hok]
          rw [hok, e1, show errOf false = .int .i64 1 from rfl]
          clear hok e1 h1
          subst ho
          go_enter Try.func9, Try.ntmps9
          go_wp2_with fail
          refine HT.out.mono ?_
          rintro e w1 ⟨rfl, rfl⟩
          go_wp2_with fail
          refine wp_region_same (fun w' => Chg (fun _ => False) (w.alloc (Obj.cells #[.int .i64 x, .int .i64 y] 62)) w') (by kernel_rfl) (by kernel_rfl) ?_ ?_
          · exact (Chg.refl _ _).drew
          (refine wpC_read rfl (fun _ _ _ h => h) (fun K hK => ?_); apply Exists.intro; refine ⟨fun _ w' _ hC => ?_, ?_⟩; ((skip); go_simp; try with_reducible rfl); (try go_simp); refine hK _ ?_; clear hK K)
          (refine wpC_read rfl (fun _ _ _ h => h) (fun K hK => ?_); apply Exists.intro; refine ⟨fun _ w' _ hC => ?_, ?_⟩; ((skip); go_simp; try with_reducible rfl); (try go_simp); refine hK _ ?_; clear hK K)
          (refine wpC_read rfl (fun _ _ _ h => h) (fun K hK => ?_); apply Exists.intro; refine ⟨fun _ w' _ hC => ?_, ?_⟩; ((skip); go_simp; try with_reducible rfl); (try go_simp); refine hK _ ?_; clear hK K)
          (refine wpC_read rfl (fun _ _ _ h => h) (fun K hK => ?_); apply Exists.intro; refine ⟨fun _ w' _ hC => ?_, ?_⟩; ((skip); go_simp; try with_reducible rfl); (try go_simp); refine hK _ ?_; clear hK K)
          (refine wpC_read rfl (fun _ _ _ h => h) (fun K hK => ?_); apply Exists.intro; refine ⟨fun _ w' _ hC => ?_, ?_⟩; ((have q1 := hC.cellS kx (fun h => h); have q2 := hC.cellS ky (fun h => h)); go_simp; try with_reducible rfl); (try go_simp); refine hK _ ?_; clear hK K)
          refine wpC_call rfl (.bool true )  21  ( #[.pointer (some ⟨b, 0, none⟩), .pointer (some ⟨b, 0, none⟩), .agg #[.int .i64 x, .int .i64 y]]) (fun w' => by go_simp) (fun _ w' _ hC => ?_) (fun K hK => ?_)
          · refine (has_any b b 0 x y s.nr s.nt w' (hC.cellS HM0.out.c0 (fun h => h)) (hC.cellS k4 (fun h => h))).mono ?_
            rintro e w2 ⟨rfl, hc2⟩
            exact ⟨by rw [HBB.out], hC.trans hc2⟩
          ((try go_simp); refine hK _ ?_; clear hK K)
          (refine wpC_read rfl (fun _ _ _ h => h) (fun K hK => ?_); apply Exists.intro; refine ⟨fun _ w' _ hC => ?_, ?_⟩; ((skip); go_simp; try with_reducible rfl); (try go_simp); refine hK _ ?_; clear hK K)
          (refine wpC_read rfl (fun _ _ _ h => h) (fun K hK => ?_); apply Exists.intro; refine ⟨fun _ w' _ hC => ?_, ?_⟩; ((skip); go_simp; try with_reducible rfl); (try go_simp); refine hK _ ?_; clear hK K)
          refine wpC_nil ?_
          intro w2 hC2
          have HC2 := Lib.hid (HC0.out.trans hC2)
          have HM2 := Lib.hid (HM0.out.chg hC2 (fun h => h) (fun h => h) (fun h => h))
          have m4 := HM2.out.c4
          have mx := hC2.cellS kx (fun h => h)
          have my := hC2.cellS ky (fun h => h)
          clear hC2 k1 k4 kx ky
          go_wp2
          go_ret
          exact ⟨rfl, HM2.out, HC2.out.mono (fun _ _ h => h.elim)⟩
        · have hok : s.okR x y z = true := by simp only [MS.okR, HBB.out]; simp; omega
          have e1 : s.sayR x y z = { s with R := sayF s.R x y z, sz := s.sz + 1 } := by simp [MS.sayR, hok]
          have E1 := Lib.hid e1
          rw [hok, show errOf true = .int .i64 0 from rfl]
          clear hok e1 h1
          subst ho
          go_enter Try.func9, Try.ntmps9
          go_wp2_with fail
          refine HT.out.mono ?_
          rintro e w1 ⟨rfl, rfl⟩
          go_wp2_with fail
          refine wp_region_same (fun w' => Chg (fun _ => False) (w.alloc (Obj.cells #[.int .i64 x, .int .i64 y] 62)) w') (by kernel_rfl) (by kernel_rfl) ?_ ?_
          · exact (Chg.refl _ _).drew
          (refine wpC_read rfl (fun _ _ _ h => h) (fun K hK => ?_); apply Exists.intro; refine ⟨fun _ w' _ hC => ?_, ?_⟩; ((skip); go_simp; try with_reducible rfl); (try go_simp); refine hK _ ?_; clear hK K)
          (refine wpC_read rfl (fun _ _ _ h => h) (fun K hK => ?_); apply Exists.intro; refine ⟨fun _ w' _ hC => ?_, ?_⟩; ((skip); go_simp; try with_reducible rfl); (try go_simp); refine hK _ ?_; clear hK K)
          (refine wpC_read rfl (fun _ _ _ h => h) (fun K hK => ?_); apply Exists.intro; refine ⟨fun _ w' _ hC => ?_, ?_⟩; ((skip); go_simp; try with_reducible rfl); (try go_simp); refine hK _ ?_; clear hK K)
          (refine wpC_read rfl (fun _ _ _ h => h) (fun K hK => ?_); apply Exists.intro; refine ⟨fun _ w' _ hC => ?_, ?_⟩; ((skip); go_simp; try with_reducible rfl); (try go_simp); refine hK _ ?_; clear hK K)
          (refine wpC_read rfl (fun _ _ _ h => h) (fun K hK => ?_); apply Exists.intro; refine ⟨fun _ w' _ hC => ?_, ?_⟩; ((have q1 := hC.cellS kx (fun h => h); have q2 := hC.cellS ky (fun h => h)); go_simp; try with_reducible rfl); (try go_simp); refine hK _ ?_; clear hK K)
          refine wpC_call rfl (.bool true )  21  ( #[.pointer (some ⟨b, 0, none⟩), .pointer (some ⟨b, 0, none⟩), .agg #[.int .i64 x, .int .i64 y]]) (fun w' => by go_simp) (fun _ w' _ hC => ?_) (fun K hK => ?_)
          · refine (has_any b b 0 x y s.nr s.nt w' (hC.cellS HM0.out.c0 (fun h => h)) (hC.cellS k4 (fun h => h))).mono ?_
            rintro e w2 ⟨rfl, hc2⟩
            exact ⟨by rw [HBB.out], hC.trans hc2⟩
          ((try go_simp); refine hK _ ?_; clear hK K)
          (refine wpC_read rfl (fun _ _ _ h => h) (fun K hK => ?_); apply Exists.intro; refine ⟨fun _ w' _ hC => ?_, ?_⟩; ((skip); go_simp; try with_reducible rfl); (try go_simp); refine hK _ ?_; clear hK K)
          (refine wpC_read rfl (fun _ _ _ h => h) (fun K hK => ?_); apply Exists.intro; refine ⟨fun _ w' _ hC => ?_, ?_⟩; ((skip); go_simp; try with_reducible rfl); (try go_simp); refine hK _ ?_; clear hK K)
          refine wpC_nil ?_
          intro w2 hC2
          have HC2 := Lib.hid (HC0.out.trans hC2)
          have HM2 := Lib.hid (HM0.out.chg hC2 (fun h => h) (fun h => h) (fun h => h))
          have m4 := HM2.out.c4
          have mx := hC2.cellS kx (fun h => h)
          have my := hC2.cellS ky (fun h => h)
          clear hC2 k1 k4 kx ky
          go_wp2_with fail
          (refine stillTail 5 (by kernel_rfl) (by kernel_rfl) ?_; simp only [List.take_succ_cons, List.take_zero, List.drop_succ_cons, List.drop_zero]; (repeat still_step); refine wpStill_nil ?_)
          go_wp2_with fail
          have mc := (HM2.out.drewN 1).c1
          have hn : s.sz < maxLen := by have := hF.sz; unfold maxLen; omega
          refine (say_any b 0 br s.sz s.R x y z _ hx hy hz mc (HM2.out.drewN 1).mr hn).mono ?_
          rintro e w3 ⟨rfl, hm3, hc3⟩
          have HM3 := Lib.hid ((HM2.out.drewN 1).saidR hm3 hc3)
          have HC3 : Hid (Chg (· = br) w w3) := Lib.hid (((HC2.out.drewN 1).mono (fun _ _ h => h.elim)).trans hc3)
          clear hm3 hc3 mc hn
          go_wp2
          go_ret
          exact ⟨rfl, by rw [E1.out]; exact HM3.out, HC3.out⟩
  · have hB' : hasB s.nr s.nt x y = false := by simpa using hB
    have HBB := Lib.hid hB'
    clear hB
    have hok : s.okR x y z = false := by simp [MS.okR, hB']
    have e1 : s.sayR x y z = s := by simp [MS.sayR, hok]
    rw [hok, e1, show errOf false = .int .i64 1 from rfl]
    clear hok e1 hB'
    subst ho
    go_enter Try.func9, Try.ntmps9
    go_wp2_with fail
    refine HT.out.mono ?_
    rintro e w1 ⟨rfl, rfl⟩
    go_wp2_with fail
    refine wp_region_same (fun w' => Chg (fun _ => False) (w.alloc (Obj.cells #[.int .i64 x, .int .i64 y] 62)) w') (by kernel_rfl) (by kernel_rfl) ?_ ?_
    · exact (Chg.refl _ _).drew
    (refine wpC_read rfl (fun _ _ _ h => h) (fun K hK => ?_); apply Exists.intro; refine ⟨fun _ w' _ hC => ?_, ?_⟩; ((skip); go_simp; try with_reducible rfl); (try go_simp); refine hK _ ?_; clear hK K)
    (refine wpC_read rfl (fun _ _ _ h => h) (fun K hK => ?_); apply Exists.intro; refine ⟨fun _ w' _ hC => ?_, ?_⟩; ((skip); go_simp; try with_reducible rfl); (try go_simp); refine hK _ ?_; clear hK K)
    (refine wpC_read rfl (fun _ _ _ h => h) (fun K hK => ?_); apply Exists.intro; refine ⟨fun _ w' _ hC => ?_, ?_⟩; ((skip); go_simp; try with_reducible rfl); (try go_simp); refine hK _ ?_; clear hK K)
    (refine wpC_read rfl (fun _ _ _ h => h) (fun K hK => ?_); apply Exists.intro; refine ⟨fun _ w' _ hC => ?_, ?_⟩; ((skip); go_simp; try with_reducible rfl); (try go_simp); refine hK _ ?_; clear hK K)
    (refine wpC_read rfl (fun _ _ _ h => h) (fun K hK => ?_); apply Exists.intro; refine ⟨fun _ w' _ hC => ?_, ?_⟩; ((have q1 := hC.cellS kx (fun h => h); have q2 := hC.cellS ky (fun h => h)); go_simp; try with_reducible rfl); (try go_simp); refine hK _ ?_; clear hK K)
    refine wpC_call rfl (.bool false )  21  ( #[.pointer (some ⟨b, 0, none⟩), .pointer (some ⟨b, 0, none⟩), .agg #[.int .i64 x, .int .i64 y]]) (fun w' => by go_simp) (fun _ w' _ hC => ?_) (fun K hK => ?_)
    · refine (has_any b b 0 x y s.nr s.nt w' (hC.cellS HM0.out.c0 (fun h => h)) (hC.cellS k4 (fun h => h))).mono ?_
      rintro e w2 ⟨rfl, hc2⟩
      exact ⟨by rw [HBB.out], hC.trans hc2⟩
    ((try go_simp); refine hK _ ?_; clear hK K)
    (refine wpC_read rfl (fun _ _ _ h => h) (fun K hK => ?_); apply Exists.intro; refine ⟨fun _ w' _ hC => ?_, ?_⟩; ((skip); go_simp; try with_reducible rfl); (try go_simp); refine hK _ ?_; clear hK K)
    (refine wpC_read rfl (fun _ _ _ h => h) (fun K hK => ?_); apply Exists.intro; refine ⟨fun _ w' _ hC => ?_, ?_⟩; ((skip); go_simp; try with_reducible rfl); (try go_simp); refine hK _ ?_; clear hK K)
    refine wpC_nil ?_
    intro w2 hC2
    have HC2 := Lib.hid (HC0.out.trans hC2)
    have HM2 := Lib.hid (HM0.out.chg hC2 (fun h => h) (fun h => h) (fun h => h))
    have m4 := HM2.out.c4
    have mx := hC2.cellS kx (fun h => h)
    have my := hC2.cellS ky (fun h => h)
    clear hC2 k1 k4 kx ky
    go_wp2
    go_ret
    exact ⟨rfl, HM2.out, HC2.out.mono (fun _ _ h => h.elim)⟩
set_option maxHeartbeats 2000000 in
theorem sayP_at (b br bp : Nat) (s : MS) (x y z : Int) (w : World) (hx : W64 x) (hy : W64 y) (hz : W64 z) (H : MemoAt w b br bp s) (hF : s.Fine) :
    Calls Try.prog 11 #[.pointer (some ⟨b, 0, none⟩), .int .i64 x, .int .i64 y, .int .i64 z] w fun e w' => e = .returned (errOf (s.okP x y z)) ∧ MemoAt w' b br bp (s.sayP x y z) ∧ Chg (· = bp) w w' := by
  have hlt : b < w.heap.size := World.block_lt_of_cell? _ _ H.c0
  obtain ⟨o, ho⟩ : ∃ o, o = Obj.cells #[.int .i64 x, .int .i64 y] 62 := ⟨_, rfl⟩
  have HC0 := Lib.hid ((Chg.refl (fun _ => False) w).alloc o)
  have HM0 := Lib.hid (H.chg HC0.out (fun h => h) (fun h => h) (fun h => h))
  have k1 := HM0.out.c1
  have k4 := HM0.out.c4
  have kx : (w.alloc o).cell? ⟨w.heap.size, 0, none⟩ = some (.int .i64 x) := by subst ho; exact World.cell?_alloc_new _ _ _ _
  have ky : (w.alloc o).cell? ⟨w.heap.size, 1, none⟩ = some (.int .i64 y) := by subst ho; exact World.cell?_alloc_new _ _ _ _
  have HT := Lib.hid (there_at b (some br) _ k1)
  by_cases hB : hasB s.np s.nt x y = true
  · have HBB := Lib.hid hB
    clear hB
    by_cases h1 : z < -1
    · have hok : s.okP x y z = false := by simp [MS.okP, h1]
      have e1 : s.sayP x y z = s := by simp [MS.sayP, hok]
      rw [hok, e1, show errOf false = .int .i64 1 from rfl]
      clear hok e1
      subst ho
      go_enter Try.func11, Try.ntmps11
      go_wp2_with fail
      refine HT.out.mono ?_
      rintro e w1 ⟨rfl, rfl⟩
      go_wp2_with fail
      refine wp_region_same (fun w' => Chg (fun _ => False) (w.alloc (Obj.cells #[.int .i64 x, .int .i64 y] 62)) w') (by kernel_rfl) (by kernel_rfl) ?_ ?_
      · exact (Chg.refl _ _).drew
      (refine wpC_read rfl (fun _ _ _ h => h) (fun K hK => ?_); apply Exists.intro; refine ⟨fun _ w' _ hC => ?_, ?_⟩; ((skip); go_simp; try with_reducible rfl); (try go_simp); refine hK _ ?_; clear hK K)
      (refine wpC_read rfl (fun _ _ _ h => h) (fun K hK => ?_); apply Exists.intro; refine ⟨fun _ w' _ hC => ?_, ?_⟩; ((skip); go_simp; try with_reducible rfl); (try go_simp); refine hK _ ?_; clear hK K)
      (refine wpC_read rfl (fun _ _ _ h => h) (fun K hK => ?_); apply Exists.intro; refine ⟨fun _ w' _ hC => ?_, ?_⟩; ((skip); go_simp; try with_reducible rfl); (try go_simp); refine hK _ ?_; clear hK K)
      (refine wpC_read rfl (fun _ _ _ h => h) (fun K hK => ?_); apply Exists.intro; refine ⟨fun _ w' _ hC => ?_, ?_⟩; ((skip); go_simp; try with_reducible rfl); (try go_simp); refine hK _ ?_; clear hK K)
      (refine wpC_read rfl (fun _ _ _ h => h) (fun K hK => ?_); apply Exists.intro; refine ⟨fun _ w' _ hC => ?_, ?_⟩; ((have q1 := hC.cellS kx (fun h => h); have q2 := hC.cellS ky (fun h => h)); go_simp; try with_reducible rfl); (try go_simp); refine hK _ ?_; clear hK K)
      refine wpC_call rfl (.bool true )  21  ( #[.pointer (some ⟨b, 0, none⟩), .pointer (some ⟨b, 2, none⟩), .agg #[.int .i64 x, .int .i64 y]]) (fun w' => by go_simp) (fun _ w' _ hC => ?_) (fun K hK => ?_)
      · refine (has_any b b 2 x y s.np s.nt w' (hC.cellS HM0.out.c2 (fun h => h)) (hC.cellS k4 (fun h => h))).mono ?_
        rintro e w2 ⟨rfl, hc2⟩
        exact ⟨by rw [HBB.out], hC.trans hc2⟩
      ((try go_simp); refine hK _ ?_; clear hK K)
      (refine wpC_read rfl (fun _ _ _ h => h) (fun K hK => ?_); apply Exists.intro; refine ⟨fun _ w' _ hC => ?_, ?_⟩; ((skip); go_simp; try with_reducible rfl); (try go_simp); refine hK _ ?_; clear hK K)
      (refine wpC_read rfl (fun _ _ _ h => h) (fun K hK => ?_); apply Exists.intro; refine ⟨fun _ w' _ hC => ?_, ?_⟩; ((skip); go_simp; try with_reducible rfl); (try go_simp); refine hK _ ?_; clear hK K)
      refine wpC_nil ?_
      intro w2 hC2
      have HC2 := Lib.hid (HC0.out.trans hC2)
      have HM2 := Lib.hid (HM0.out.chg hC2 (fun h => h) (fun h => h) (fun h => h))
      have m4 := HM2.out.c4
      have mx := hC2.cellS kx (fun h => h)
      have my := hC2.cellS ky (fun h => h)
      clear hC2 k1 k4 kx ky
      go_wp2
      go_ret
      exact ⟨rfl, HM2.out, HC2.out.mono (fun _ _ h => h.elim)⟩
    · by_cases h2 : 32 ≤ z
      · have hok : s.okP x y z = false := by simp [MS.okP, h2]
        have e1 : s.sayP x y z = s := by simp [MS.sayP, hok]
        rw [hok, e1, show errOf false = .int .i64 1 from rfl]
        clear hok e1
        subst ho
        go_enter Try.func11, Try.ntmps11
        go_wp2_with fail
        refine HT.out.mono ?_
        rintro e w1 ⟨rfl, rfl⟩
        go_wp2_with fail
        refine wp_region_same (fun w' => Chg (fun _ => False) (w.alloc (Obj.cells #[.int .i64 x, .int .i64 y] 62)) w') (by kernel_rfl) (by kernel_rfl) ?_ ?_
        · exact (Chg.refl _ _).drew
        (refine wpC_read rfl (fun _ _ _ h => h) (fun K hK => ?_); apply Exists.intro; refine ⟨fun _ w' _ hC => ?_, ?_⟩; ((skip); go_simp; try with_reducible rfl); (try go_simp); refine hK _ ?_; clear hK K)
        (refine wpC_read rfl (fun _ _ _ h => h) (fun K hK => ?_); apply Exists.intro; refine ⟨fun _ w' _ hC => ?_, ?_⟩; ((skip); go_simp; try with_reducible rfl); (try go_simp); refine hK _ ?_; clear hK K)
        (refine wpC_read rfl (fun _ _ _ h => h) (fun K hK => ?_); apply Exists.intro; refine ⟨fun _ w' _ hC => ?_, ?_⟩; ((skip); go_simp; try with_reducible rfl); (try go_simp); refine hK _ ?_; clear hK K)
        (refine wpC_read rfl (fun _ _ _ h => h) (fun K hK => ?_); apply Exists.intro; refine ⟨fun _ w' _ hC => ?_, ?_⟩; ((skip); go_simp; try with_reducible rfl); (try go_simp); refine hK _ ?_; clear hK K)
        (refine wpC_read rfl (fun _ _ _ h => h) (fun K hK => ?_); apply Exists.intro; refine ⟨fun _ w' _ hC => ?_, ?_⟩; ((have q1 := hC.cellS kx (fun h => h); have q2 := hC.cellS ky (fun h => h)); go_simp; try with_reducible rfl); (try go_simp); refine hK _ ?_; clear hK K)
        refine wpC_call rfl (.bool true )  21  ( #[.pointer (some ⟨b, 0, none⟩), .pointer (some ⟨b, 2, none⟩), .agg #[.int .i64 x, .int .i64 y]]) (fun w' => by go_simp) (fun _ w' _ hC => ?_) (fun K hK => ?_)
        · refine (has_any b b 2 x y s.np s.nt w' (hC.cellS HM0.out.c2 (fun h => h)) (hC.cellS k4 (fun h => h))).mono ?_
          rintro e w2 ⟨rfl, hc2⟩
          exact ⟨by rw [HBB.out], hC.trans hc2⟩
        ((try go_simp); refine hK _ ?_; clear hK K)
        (refine wpC_read rfl (fun _ _ _ h => h) (fun K hK => ?_); apply Exists.intro; refine ⟨fun _ w' _ hC => ?_, ?_⟩; ((skip); go_simp; try with_reducible rfl); (try go_simp); refine hK _ ?_; clear hK K)
        (refine wpC_read rfl (fun _ _ _ h => h) (fun K hK => ?_); apply Exists.intro; refine ⟨fun _ w' _ hC => ?_, ?_⟩; ((skip); go_simp; try with_reducible rfl); (try go_simp); refine hK _ ?_; clear hK K)
        refine wpC_nil ?_
        intro w2 hC2
        have HC2 := Lib.hid (HC0.out.trans hC2)
        have HM2 := Lib.hid (HM0.out.chg hC2 (fun h => h) (fun h => h) (fun h => h))
        have m4 := HM2.out.c4
        have mx := hC2.cellS kx (fun h => h)
        have my := hC2.cellS ky (fun h => h)
        clear hC2 k1 k4 kx ky
        go_wp2
        go_ret
        exact ⟨rfl, HM2.out, HC2.out.mono (fun _ _ h => h.elim)⟩
      · have hok : s.okP x y z = true := by simp only [MS.okP, HBB.out]; simp; omega
        have e1 : s.sayP x y z = { s with P := sayF s.P x y z, sz := s.sz + 1 } := by simp [MS.sayP, hok]
        have E1 := Lib.hid e1
        rw [hok, show errOf true = .int .i64 0 from rfl]
        clear hok e1
        subst ho
        go_enter Try.func11, Try.ntmps11
        go_wp2_with fail
        refine HT.out.mono ?_
        rintro e w1 ⟨rfl, rfl⟩
        go_wp2_with fail
        refine wp_region_same (fun w' => Chg (fun _ => False) (w.alloc (Obj.cells #[.int .i64 x, .int .i64 y] 62)) w') (by kernel_rfl) (by kernel_rfl) ?_ ?_
        · exact (Chg.refl _ _).drew
        (refine wpC_read rfl (fun _ _ _ h => h) (fun K hK => ?_); apply Exists.intro; refine ⟨fun _ w' _ hC => ?_, ?_⟩; ((skip); go_simp; try with_reducible rfl); (try go_simp); refine hK _ ?_; clear hK K)
        (refine wpC_read rfl (fun _ _ _ h => h) (fun K hK => ?_); apply Exists.intro; refine ⟨fun _ w' _ hC => ?_, ?_⟩; ((skip); go_simp; try with_reducible rfl); (try go_simp); refine hK _ ?_; clear hK K)
        (refine wpC_read rfl (fun _ _ _ h => h) (fun K hK => ?_); apply Exists.intro; refine ⟨fun _ w' _ hC => ?_, ?_⟩; ((skip); go_simp; try with_reducible rfl); (try go_simp); refine hK _ ?_; clear hK K)
        (refine wpC_read rfl (fun _ _ _ h => h) (fun K hK => ?_); apply Exists.intro; refine ⟨fun _ w' _ hC => ?_, ?_⟩; ((skip); go_simp; try with_reducible rfl); (try go_simp); refine hK _ ?_; clear hK K)
        (refine wpC_read rfl (fun _ _ _ h => h) (fun K hK => ?_); apply Exists.intro; refine ⟨fun _ w' _ hC => ?_, ?_⟩; ((have q1 := hC.cellS kx (fun h => h); have q2 := hC.cellS ky (fun h => h)); go_simp; try with_reducible rfl); (try go_simp); refine hK _ ?_; clear hK K)
        refine wpC_call rfl (.bool true )  21  ( #[.pointer (some ⟨b, 0, none⟩), .pointer (some ⟨b, 2, none⟩), .agg #[.int .i64 x, .int .i64 y]]) (fun w' => by go_simp) (fun _ w' _ hC => ?_) (fun K hK => ?_)
        · refine (has_any b b 2 x y s.np s.nt w' (hC.cellS HM0.out.c2 (fun h => h)) (hC.cellS k4 (fun h => h))).mono ?_
          rintro e w2 ⟨rfl, hc2⟩
          exact ⟨by rw [HBB.out], hC.trans hc2⟩
        ((try go_simp); refine hK _ ?_; clear hK K)
        (refine wpC_read rfl (fun _ _ _ h => h) (fun K hK => ?_); apply Exists.intro; refine ⟨fun _ w' _ hC => ?_, ?_⟩; ((skip); go_simp; try with_reducible rfl); (try go_simp); refine hK _ ?_; clear hK K)
        (refine wpC_read rfl (fun _ _ _ h => h) (fun K hK => ?_); apply Exists.intro; refine ⟨fun _ w' _ hC => ?_, ?_⟩; ((skip); go_simp; try with_reducible rfl); (try go_simp); refine hK _ ?_; clear hK K)
        refine wpC_nil ?_
        intro w2 hC2
        have HC2 := Lib.hid (HC0.out.trans hC2)
        have HM2 := Lib.hid (HM0.out.chg hC2 (fun h => h) (fun h => h) (fun h => h))
        have m4 := HM2.out.c4
        have mx := hC2.cellS kx (fun h => h)
        have my := hC2.cellS ky (fun h => h)
        clear hC2 k1 k4 kx ky
        go_wp2_with fail
        (refine stillTail 5 (by kernel_rfl) (by kernel_rfl) ?_; simp only [List.take_succ_cons, List.take_zero, List.drop_succ_cons, List.drop_zero]; (repeat still_step); refine wpStill_nil ?_)
        go_wp2_with fail
        have mc := (HM2.out.drewN 1).c3
        have hn : s.sz < maxLen := by have := hF.sz; unfold maxLen; omega
        refine (say_any b 2 bp s.sz s.P x y z _ hx hy hz mc (HM2.out.drewN 1).mp hn).mono ?_
        rintro e w3 ⟨rfl, hm3, hc3⟩
        have HM3 := Lib.hid ((HM2.out.drewN 1).saidP hm3 hc3)
        have HC3 : Hid (Chg (· = bp) w w3) := Lib.hid (((HC2.out.drewN 1).mono (fun _ _ h => h.elim)).trans hc3)
        clear hm3 hc3 mc hn
        go_wp2
        go_ret
        exact ⟨rfl, by rw [E1.out]; exact HM3.out, HC3.out⟩
  · have hB' : hasB s.np s.nt x y = false := by simpa using hB
    have HBB := Lib.hid hB'
    clear hB
    have hok : s.okP x y z = false := by simp [MS.okP, hB']
    have e1 : s.sayP x y z = s := by simp [MS.sayP, hok]
    rw [hok, e1, show errOf false = .int .i64 1 from rfl]
    clear hok e1 hB'
    subst ho
    go_enter Try.func11, Try.ntmps11
    go_wp2_with fail
    refine HT.out.mono ?_
    rintro e w1 ⟨rfl, rfl⟩
    go_wp2_with fail
    refine wp_region_same (fun w' => Chg (fun _ => False) (w.alloc (Obj.cells #[.int .i64 x, .int .i64 y] 62)) w') (by kernel_rfl) (by kernel_rfl) ?_ ?_
    · exact (Chg.refl _ _).drew
    (refine wpC_read rfl (fun _ _ _ h => h) (fun K hK => ?_); apply Exists.intro; refine ⟨fun _ w' _ hC => ?_, ?_⟩; ((skip); go_simp; try with_reducible rfl); (try go_simp); refine hK _ ?_; clear hK K)
    (refine wpC_read rfl (fun _ _ _ h => h) (fun K hK => ?_); apply Exists.intro; refine ⟨fun _ w' _ hC => ?_, ?_⟩; ((skip); go_simp; try with_reducible rfl); (try go_simp); refine hK _ ?_; clear hK K)
    (refine wpC_read rfl (fun _ _ _ h => h) (fun K hK => ?_); apply Exists.intro; refine ⟨fun _ w' _ hC => ?_, ?_⟩; ((skip); go_simp; try with_reducible rfl); (try go_simp); refine hK _ ?_; clear hK K)
    (refine wpC_read rfl (fun _ _ _ h => h) (fun K hK => ?_); apply Exists.intro; refine ⟨fun _ w' _ hC => ?_, ?_⟩; ((skip); go_simp; try with_reducible rfl); (try go_simp); refine hK _ ?_; clear hK K)
    (refine wpC_read rfl (fun _ _ _ h => h) (fun K hK => ?_); apply Exists.intro; refine ⟨fun _ w' _ hC => ?_, ?_⟩; ((have q1 := hC.cellS kx (fun h => h); have q2 := hC.cellS ky (fun h => h)); go_simp; try with_reducible rfl); (try go_simp); refine hK _ ?_; clear hK K)
    refine wpC_call rfl (.bool false )  21  ( #[.pointer (some ⟨b, 0, none⟩), .pointer (some ⟨b, 2, none⟩), .agg #[.int .i64 x, .int .i64 y]]) (fun w' => by go_simp) (fun _ w' _ hC => ?_) (fun K hK => ?_)
    · refine (has_any b b 2 x y s.np s.nt w' (hC.cellS HM0.out.c2 (fun h => h)) (hC.cellS k4 (fun h => h))).mono ?_
      rintro e w2 ⟨rfl, hc2⟩
      exact ⟨by rw [HBB.out], hC.trans hc2⟩
    ((try go_simp); refine hK _ ?_; clear hK K)
    (refine wpC_read rfl (fun _ _ _ h => h) (fun K hK => ?_); apply Exists.intro; refine ⟨fun _ w' _ hC => ?_, ?_⟩; ((skip); go_simp; try with_reducible rfl); (try go_simp); refine hK _ ?_; clear hK K)
    (refine wpC_read rfl (fun _ _ _ h => h) (fun K hK => ?_); apply Exists.intro; refine ⟨fun _ w' _ hC => ?_, ?_⟩; ((skip); go_simp; try with_reducible rfl); (try go_simp); refine hK _ ?_; clear hK K)
    refine wpC_nil ?_
    intro w2 hC2
    have HC2 := Lib.hid (HC0.out.trans hC2)
    have HM2 := Lib.hid (HM0.out.chg hC2 (fun h => h) (fun h => h) (fun h => h))
    have m4 := HM2.out.c4
    have mx := hC2.cellS kx (fun h => h)
    have my := hC2.cellS ky (fun h => h)
    clear hC2 k1 k4 kx ky
    go_wp2
    go_ret
    exact ⟨rfl, HM2.out, HC2.out.mono (fun _ _ h => h.elim)⟩
end Go.Proofs.Ytoicneeecokglaa
