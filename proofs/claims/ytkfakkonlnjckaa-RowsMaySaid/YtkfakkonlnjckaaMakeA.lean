/- What both Makes answer, whatever is handed in. -/
import Derived.Test.YtkfakkonlnjckaaMakeL
namespace Go.Proofs.Ytkfakkonlnjckaa
open Go.RowKit

def mkOk (W : Int) (LL : List (List Int)) : Bool := decide (0 ≤ W ∧ W ≤ 65536) && makeOk W LL
def mkW (W : Int) (LL : List (List Int)) : Int := if mkOk W LL then W else 0
def mkR (W : Int) (LL : List (List Int)) : List RowD := if mkOk W LL then (makeL LL).1 else []
def mkO (W : Int) (LL : List (List Int)) : List Int := if mkOk W LL then (makeL LL).2 else []
def mkE (W : Int) (LL : List (List Int)) : Int := if mkOk W LL then 0 else 1
theorem mk_good {W : Int} {LL : List (List Int)} (h : mkOk W LL = true) : mkW W LL = W ∧ mkR W LL = (makeL LL).1 ∧ mkO W LL = (makeL LL).2 ∧ mkE W LL = 0 := by
  simp [mkW, mkR, mkO, mkE, h]
theorem mk_bad {W : Int} {LL : List (List Int)} (h : mkOk W LL = false) : mkW W LL = 0 ∧ mkR W LL = [] ∧ mkO W LL = [] ∧ mkE W LL = 1 := by
  simp [mkW, mkR, mkO, mkE, h]
theorem rowsNil {E : Elt (Int × Int)} {F : Elt (Int × Sl)} (w : World) (B : Nat) : RowsIn E F w B (none, 0, 0) [] := ⟨[], .nil _ _ _, rfl, fun j x r hx => by simp at hx⟩
theorem make_all (W : Int) (LL : List (List Int)) (a : Option Addr) (c B : Nat) (w : World) (h : ListsIn w B (a, LL.length, c) LL) (hn : LL.length ≤ 65536) (hl : ∀ l ∈ LL, l.length ≤ 65536) :
    Calls Try.prog 18 #[.int .i64 W, .slice a LL.length c] w fun e w' => ∃ ra oa, e = .returned (tabV (mkW W LL) ra (mkR W LL).length (mkR W LL).length oa (mkO W LL).length (mkO W LL).length (mkE W LL)) ∧ RowsIn cellE rowE w' w.heap.size (ra, (mkR W LL).length, (mkR W LL).length) (mkR W LL) ∧ OfIn w' w.heap.size oa (mkO W LL) ∧ Chg (fun _ => False) w w' := by
  have bad : mkOk W LL = false → ∀ (e : Ending) (w' : World), e = .returned (tabV 0 none 0 0 none 0 0 1) ∧ Chg (fun _ => False) w w' → ∃ ra oa, e = .returned (tabV (mkW W LL) ra (mkR W LL).length (mkR W LL).length oa (mkO W LL).length (mkO W LL).length (mkE W LL)) ∧ RowsIn cellE rowE w' w.heap.size (ra, (mkR W LL).length, (mkR W LL).length) (mkR W LL) ∧ OfIn w' w.heap.size oa (mkO W LL) ∧ Chg (fun _ => False) w w' := fun h e w' ⟨h1, h2⟩ => by
    obtain ⟨e1, e2, e3, e4⟩ := mk_bad h
    rw [e1, e2, e3, e4]
    exact ⟨none, none, h1, rowsNil _ _, .inl ⟨rfl, rfl⟩, h2⟩
  by_cases hW : 0 ≤ W ∧ W ≤ 65536
  · refine (make_any W LL a c B w h hW.1 hW.2 hn hl).mono fun e w' hp => ?_
    rcases hp with ⟨h1, h2, h3⟩ | ⟨h1, ra, oa, h2, h3, h4, h5⟩
    · exact bad (by simp [mkOk, h1]) e w' ⟨h2, h3⟩
    · obtain ⟨e1, e2, e3, e4⟩ := mk_good (show mkOk W LL = true by simp [mkOk, h1, hW])
      rw [e1, e2, e3, e4]
      exact ⟨ra, oa, h2, h3, h4, h5⟩
  · exact (make_widthBad W a LL.length c w hW).mono fun e w' hp => bad (by simp only [mkOk, decide_eq_false hW, Bool.false_and]) e w' hp
theorem refMake_all (W : Int) (LL : List (List Int)) (a : Option Addr) (c B : Nat) (w : World) (h : ListsIn w B (a, LL.length, c) LL) (hn : LL.length ≤ 65536) (hl : ∀ l ∈ LL, l.length ≤ 65536) :
    Calls Try.prog 19 #[.int .i64 W, .slice a LL.length c] w fun e w' => ∃ ra oa rc oc, e = .returned (tabV (mkW W LL) ra (mkR W LL).length rc oa (mkO W LL).length oc (mkE W LL)) ∧ RowsIn cellR rowR w' w.heap.size (ra, (mkR W LL).length, rc) (mkR W LL) ∧ OfIn w' w.heap.size oa (mkO W LL) ∧ Chg (fun _ => False) w w' := by
  have bad : mkOk W LL = false → ∀ (e : Ending) (w' : World), e = .returned (tabV 0 none 0 0 none 0 0 1) ∧ Chg (fun _ => False) w w' → ∃ ra oa rc oc, e = .returned (tabV (mkW W LL) ra (mkR W LL).length rc oa (mkO W LL).length oc (mkE W LL)) ∧ RowsIn cellR rowR w' w.heap.size (ra, (mkR W LL).length, rc) (mkR W LL) ∧ OfIn w' w.heap.size oa (mkO W LL) ∧ Chg (fun _ => False) w w' := fun h e w' ⟨h1, h2⟩ => by
    obtain ⟨e1, e2, e3, e4⟩ := mk_bad h
    rw [e1, e2, e3, e4]
    exact ⟨none, none, 0, 0, h1, rowsNil _ _, .inl ⟨rfl, rfl⟩, h2⟩
  by_cases hW : 0 ≤ W ∧ W ≤ 65536
  · refine (refMake_any W LL a c B w h hW.1 hW.2 hn hl).mono fun e w' hp => ?_
    rcases hp with ⟨h1, h2, h3⟩ | ⟨h1, ra, oa, rc, oc, h2, h3, h4, -, h5⟩
    · exact bad (by simp [mkOk, h1]) e w' ⟨h2, h3⟩
    · obtain ⟨e1, e2, e3, e4⟩ := mk_good (show mkOk W LL = true by simp [mkOk, h1, hW])
      rw [e1, e2, e3, e4]
      exact ⟨ra, oa, rc, oc, h2, h3, h4, h5⟩
  · exact (refMake_widthBad W a LL.length c w hW).mono fun e w' hp => bad (by simp only [mkOk, decide_eq_false hW, Bool.false_and]) e w' hp
end Go.Proofs.Ytkfakkonlnjckaa
