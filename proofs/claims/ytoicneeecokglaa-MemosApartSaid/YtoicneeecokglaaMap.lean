/- A map keyed by two ints, read as a function of the two: looked up, written, cleared. -/
import Derived.Test.YtoicneeecokglaaBase
import Derived.Test.YtoicneeecokglaaRows
import Derived.DeepKeys4
import Derived.ProofKit
namespace Go.Proofs.Ytoicneeecokglaa
open Go.RowKit Go.Maps

theorem own : ownKnob Try.prog.godebug = none := by kernel_rfl
theorem laidOut : laidOutB Try.prog = true := by kernel_rfl

/-- In the range of an int. -/
abbrev W64 (x : Int) : Prop := -9223372036854775808 ≤ x ∧ x ≤ 9223372036854775807
theorem W64.wf {x : Int} (h : W64 x) : (Lit.int .i64 x).wf = true := WalkArith.wf_i64 h

theorem spotRow : (62 : TypeId) < Try.prog.types.size := of_decide_eq_true (by kernel_rfl)
theorem spotWide : (match Try.prog.underlying 62 with | some (.array _ _) | some (.struct _) => true | _ => false) = true := by kernel_rfl
theorem spotLaw : Keyed Try.prog 62 := Keyed.of_law (deep_law_laid laidOut (m := 2) (by omega) spotRow (by kernel_rfl) spotWide)
def spotKey (x y : Int) : Value := .agg #[.int .i64 x, .int .i64 y]
def spotLit (x y : Int) : Lit := .string (keyBytes [.int .i64 x, .int .i64 y])
theorem spotKeyType : Try.prog.keyType 62 = true := by kernel_rfl
theorem spotCells : Try.prog.cellsOf 62 = 2 := by kernel_rfl
theorem intCells : Try.prog.cellsOf 3 = 1 := by kernel_rfl
theorem typesSize : ∃ n : Nat, Try.prog.types.size = n + 1 := Nat.exists_eq_succ_of_ne_zero (Nat.pos_iff_ne_zero.1 (Nat.lt_of_le_of_lt (Nat.zero_le _) spotRow))
theorem keyLits_int (d : Nat) {x : Int} (hx : W64 x) : Try.prog.keyLits (d + 1) 3 [.int .i64 x] = some [.int .i64 x] := by
  simp [Program.keyLits, Try.underlying3, hx.wf]
theorem keyLits_spot (d : Nat) {x y : Int} (hx : W64 x) (hy : W64 y) : Try.prog.keyLits (d + 2) 62 [.int .i64 x, .int .i64 y] = some [.int .i64 x, .int .i64 y] := by
  unfold Program.keyLits
  simp [spotCells, Try.underlying62, keyLits_int d hx, keyLits_int d hy, intCells]
theorem keyOf_spot {x y : Int} (hx : W64 x) (hy : W64 y) : keyOf Try.prog 62 (spotKey x y) = some (spotLit x y) := by
  obtain ⟨n, hn⟩ := typesSize
  have h := keyLits_spot n hx hy
  generalize hm : Try.prog.types.size = m at hn
  have hf : (Value.agg #[.int .i64 x, .int .i64 y]).formed Try.prog 62 = true := by simp [Value.formed, Try.underlying62, spotCells]
  unfold keyOf spotKey spotLit
  rw [Try.underlying62]
  simp only [spotKeyType, hf, hm, hn, Bool.and_self, if_true, Value.cells]
  rw [h]
  rfl
theorem spot_inj {x y x' y' : Int} (hx : W64 x) (hy : W64 y) (hx' : W64 x') (hy' : W64 y') (h : spotLit x y = spotLit x' y') : x = x' ∧ y = y' := by
  have := spotLaw.inj (keyOf_spot hx hy) (h ▸ keyOf_spot hx' hy')
  simpa [spotKey] using this
theorem zeroInt (w : World) : (zeroValue 3).run Try.prog w = .ok (.int .i64 0) w := by kernel_rfl

/-- Block b is a map that reads as f. -/
def MapIs (w : World) (b : Nat) (f : Int → Int → Option Int) (n : Nat) : Prop :=
  ∃ D : DataW Unit, w.ownsMap Try.prog 62 (plainElem Try.prog 3) b n D ∧
    ∀ x y, W64 x → W64 y → Maps.has D (spotLit x y) = (f x y).isSome ∧ D.atKey (spotLit x y) (.lit (.int .i64 0)) = .lit (.int .i64 ((f x y).getD 0))

theorem MapIs.chg {S : Nat → Prop} {w w' : World} {b n : Nat} {f : Int → Int → Option Int} (h : MapIs w b f n) (hg : Chg S w w') (hs : ¬ S b) : MapIs w' b f n := by
  obtain ⟨D, h1, h2⟩ := h
  exact ⟨D, ownsMap_chg h1 hg hs, h2⟩
theorem MapIs.lt {w : World} {b n : Nat} {f : Int → Int → Option Int} (h : MapIs w b f n) : b < w.heap.size := by
  obtain ⟨D, h1, h2⟩ := h
  exact h1.lt
theorem MapIs.mono {w : World} {b n m : Nat} {f : Int → Int → Option Int} (h : MapIs w b f n) (hm : n ≤ m) : MapIs w b f m := by
  obtain ⟨D, h1, h2⟩ := h
  exact ⟨D, h1.mono hm, h2⟩
theorem MapIs.made (w : World) : MapIs (w.alloc (.map #[] 0)) w.heap.size (fun _ _ => none) 0 :=
  ⟨.map [], World.ownsMap_made _ _ _ _, fun _ _ _ _ => ⟨rfl, rfl⟩⟩

/-- What is looked up. -/
theorem MapIs.look {w : World} {b n : Nat} {f : Int → Int → Option Int} (h : MapIs w b f n) {x y : Int} (hx : W64 x) (hy : W64 y) :
    (Instr.lookup 43 (.map (some b)) (.agg #[.int .i64 x, .int .i64 y]) true).run Try.prog w = .ok (.tuple #[.int .i64 ((f x y).getD 0), .bool (f x y).isSome]) w := by
  obtain ⟨D, h1, h2⟩ := h
  obtain ⟨v, ps, hrun, hv⟩ := h1.look_ok spotLaw Try.underlying43 (zeroInt w) (plainElem_int Try.underlying3 (by decide)) (keyOf_spot hx hy)
  obtain ⟨c, rfl, hc, _⟩ := plainElem_int_inv Try.underlying3 hv
  simp only [Prod.mk.injEq] at hc
  obtain ⟨e1, e2⟩ := h2 x y hx hy
  rw [e2] at hc
  have : c = (f x y).getD 0 := by
    have := hc.1
    injection this with this
    injection this with _ this
    exact this.symm
  rw [e1, this] at hrun
  exact hrun

/-- What is written. -/
theorem MapIs.store {w : World} {b n : Nat} {f : Int → Int → Option Int} (h : MapIs w b f n) (hn : n < maxLen) {x y z : Int} (hx : W64 x) (hy : W64 y) (hz : W64 z) :
    ∃ w', (Instr.mapUpdate 43 (.map (some b)) (.agg #[.int .i64 x, .int .i64 y]) (.int .i64 z)).run Try.prog w = .ok () w' ∧
      MapIs w' b (fun i j => if i = x ∧ j = y then some z else f i j) (n + 1) ∧ Chg (· = b) w w' := by
  obtain ⟨D, h1, h2⟩ := h
  obtain ⟨w', hrun, h3, h4⟩ := h1.update spotLaw Try.underlying43 hn (keyOf_spot hx hy) (plainElem_int Try.underlying3 hz.wf)
  refine ⟨w', hrun, ⟨_, h3, fun i j hi hj => ?_⟩, (Chg.refl _ _).grown h4 (fun k hk => .inr (by simpa using hk.symm))⟩
  obtain ⟨e1, e2⟩ := h2 i j hi hj
  by_cases hij : i = x ∧ j = y
  · obtain ⟨rfl, rfl⟩ := hij
    rw [has_put_same h1.isMap (by trivial), atKey_put_same h1.isMap (by trivial)]
    simp
  · have hne : spotLit i j ≠ spotLit x y := fun e => hij (spot_inj hi hj hx hy e)
    rw [has_put_other hne, atKey_put_other hne, e1, e2]
    simp [hij]

/-- All let go. -/
theorem MapIs.clear {w : World} {b n : Nat} {f : Int → Int → Option Int} (h : MapIs w b f n) (ty : TypeId) :
    ∃ w', (Builtin.clear_ #[43] ty #[.map (some b)]).run Try.prog w = .ok (.tuple #[]) w' ∧ MapIs w' b (fun _ _ => none) 0 ∧ Chg (· = b) w w' := by
  obtain ⟨D, ⟨es, clock, hb, F, hs, hD⟩, h2⟩ := h
  have hlt : b < w.heap.size := (Array.getElem?_eq_some_iff.1 hb).1
  refine ⟨ChangeMaps.setBlock w b (.map #[] clock), ?_, ⟨.map [], ⟨#[], clock, ChangeMaps.heap_setBlock_same hb _, ⟨by simp, MapKept.stamped_empty clock, by simp⟩, by simp, rfl⟩, fun _ _ _ _ => ⟨rfl, rfl⟩⟩, ?_⟩
  · simp [Builtin.clear_, run_underlying Try.underlying43, MapKept.run_getObj_map hb, MapKept.run_setObj_map _ hb, Result.andThen, ChangeMaps.setBlock]
  · exact ⟨rfl, rfl, rfl, by simp [ChangeMaps.setBlock], fun k _ hs => ChangeMaps.heap_setBlock_other hb _ (fun e => hs e)⟩
end Go.Proofs.Ytoicneeecokglaa
