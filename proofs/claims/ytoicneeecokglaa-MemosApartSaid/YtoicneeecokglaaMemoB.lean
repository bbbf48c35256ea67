/- The memo's own functions: what is said, and what is asked, of a spot. -/
import Derived.Test.YtoicneeecokglaaMemoA
namespace Go.Proofs.Ytoicneeecokglaa
open Go.RowKit Go.Maps

/-- What is known behind a saying: the first word stands. -/
def sayF (f : Int → Int → Option Int) (x y z : Int) : Int → Int → Option Int := fun i j => if i = x ∧ j = y ∧ f x y = none then some z else f i j
theorem sayF_known {f : Int → Int → Option Int} {x y : Int} (z : Int) (h : (f x y).isSome = true) : sayF f x y z = f := by
  funext i j
  unfold sayF
  rw [if_neg]
  rintro ⟨_, _, h'⟩
  rw [h'] at h
  cases h
theorem sayF_new {f : Int → Int → Option Int} {x y : Int} (z : Int) (h : (f x y).isSome = false) : sayF f x y z = fun i j => if i = x ∧ j = y then some z else f i j := by
  funext i j
  unfold sayF
  have : f x y = none := by cases hf : f x y; · rfl
                            · rw [hf] at h; cases h
  simp [this]

set_option maxHeartbeats 1000000 in
theorem say_any (pb po mb n : Nat) (f : Int → Int → Option Int) (x y z : Int) (w : World) (hx : W64 x) (hy : W64 y) (hz : W64 z) (h1 : w.cell? ⟨pb, po + 1, none⟩ = some (.map (some mb))) (hm : MapIs w mb f n) (hn : n < maxLen) :
    Calls Try.prog 22 #[.pointer (some ⟨pb, po, none⟩), .agg #[.int .i64 x, .int .i64 y], .int .i64 z] w fun e w' => e = .returned (.tuple #[]) ∧ MapIs w' mb (sayF f x y z) (n + 1) ∧ Chg (· = mb) w w' := by
  have hlt1 := World.block_lt_of_cell? _ _ h1
  simp only at hlt1
  obtain ⟨o, ho⟩ : ∃ o, o = Obj.cells #[.int .i64 x, .int .i64 y] 62 := ⟨_, rfl⟩
  have hc : ∀ k, Chg (· = mb) w ((w.alloc o).drewN k) := fun k => ((Chg.refl _ _).alloc _).drewN k
  have hm1 : ∀ k, MapIs ((w.alloc o).drewN k) mb f n := fun k => hm.chg (((Chg.refl (fun _ => False) _).alloc _).drewN k) (fun h => h)
  have hl := fun k => (hm1 k).look hx hy
  by_cases hk : (f x y).isSome = true
  · rw [sayF_known z hk]
    have hfin := fun k => (hm1 k).mono (Nat.le_succ n)
    have Hf := Lib.hid hfin
    have Hc := Lib.hid hc
    simp only [hk] at hl
    subst ho
    clear hfin hc hm1 hm hk
    go_enter Try.func22, Try.ntmps22
    go_wp2
    go_quiet (fail)
    go_wp2
    go_end0
    exact ⟨rfl, Hf.out _, Hc.out _⟩
  · have hk' : (f x y).isSome = false := by simpa using hk
    rw [sayF_new z hk']
    have hs := fun k => (hm1 k).store hn hx hy hz
    have Hs := Lib.hid hs
    have Hc := Lib.hid hc
    simp only [hk'] at hl
    subst ho
    clear hc hm1 hm hk hk' hs
    go_enter Try.func22, Try.ntmps22
    go_wp2
    go_quiet (fail)
    go_wp2
    obtain ⟨w2, hrun, hm2, hc2⟩ := Hs.out (nq + 1)
    have Hm2 := Lib.hid hm2
    have Hc2 := Lib.hid ((Hc.out (nq + 1)).trans hc2)
    clear hm2 hc2 hl
    (refine stillTail 6 (by kernel_rfl) (by kernel_rfl) ?_; simp only [List.take_succ_cons, List.take_zero, List.drop_succ_cons, List.drop_zero]; (repeat still_step); refine wpStill_nil ?_)
    go_wp2
    go_end0
    exact ⟨rfl, Hm2.out, Hc2.out⟩

/-- What a question leaves. -/
def MS.askR (s : MS) (x y : Int) : MS := if hasB s.nr s.nt x y then { s with asked := s.asked + 1, known := s.known + (if (s.R x y).isSome then 1 else 0) } else s
def MS.askP (s : MS) (x y : Int) : MS := if hasB s.np s.nt x y then { s with asked := s.asked + 1, known := s.known + (if (s.P x y).isSome then 1 else 0) } else s
def valOf (b : Bool) (o : Option Int) : Int := if b then o.getD 0 else 0
def flagOf (b : Bool) (o : Option Int) : Bool := b && o.isSome
def ansOf (b : Bool) (o : Option Int) : Value := .tuple #[.int .i64 (valOf b o), .bool (flagOf b o)]
end Go.Proofs.Ytoicneeecokglaa
