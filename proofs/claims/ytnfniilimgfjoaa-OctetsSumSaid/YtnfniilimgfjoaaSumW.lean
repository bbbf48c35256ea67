/- 'OctetsSum': one round. -/
import Derived.Test.YtnfniilimgfjoaaSealG
import Derived.Test.YtnfniilimgfjoaaNumA
namespace Go.Proofs.Ytnfniilimgfjoaa
open Go.RowKit

/-- What Of says by sv. -/
def OfBy (sv : Value) (b : Nat) : Prop := ∀ (X : List Int) (a : Option Addr) (g o c : Nat) (w : World), SumsSt w b → BytesAt w g o X → (X ≠ [] → g ≠ b) → (0 < X.length → a = some ⟨g, o, none⟩) → X.length ≤ 1000000 →
  Calls Try.prog 21 #[sv, .slice a X.length c] w fun e w' => e = .returned (.int .u32 (ofI X)) ∧ SumsSt w' b ∧ Chg (· = b) w w'
theorem ofBy_nil (b : Nat) : OfBy (.pointer none) b := fun X a g o c w hs hz _ ha hl =>
  (of_nil X a g o c w hz ha (by omega)).mono fun e w' ⟨he, hc⟩ => ⟨he, hs.chg hc (fun h => h), hc.any⟩
theorem ofBy_ptr (b : Nat) : OfBy (.pointer (some ⟨b, 0, none⟩)) b := fun X a g o c w hs hz hgb ha hl => of_any b X a g o c w hs hz hgb ha (by omega)
theorem sums_stay (b : Nat) : ∀ w w', SumsSt w b → Chg (fun _ => False) w w' → SumsSt w' b := fun _ _ h hc => h.chg hc (fun h => h)
theorem seal_by {sv : Value} {b : Nat} (H : OfBy sv b) (Z : List Int) (a : Option Addr) (g o c : Nat) (w : World) (hs : SumsSt w b) (hz : BytesAt w g o Z) (hgb : Z ≠ [] → g ≠ b) (ha : 0 < Z.length → a = some ⟨g, o, none⟩) (hl : Z.length ≤ 10000) :
    Calls Try.prog 18 #[sv, .slice a Z.length c] w fun e w' => ∃ h, e = .returned (.slice (some ⟨h, 0, none⟩) (sealL Z).length (sealL Z).length) ∧ w.heap.size ≤ h ∧ Row w' h (sealL Z) ∧ SumsSt w' b ∧ Chg (· = b) w w' :=
  seal_gen sv (· = b) (SumsSt · b) (sums_stay b) Z a g o c w (H Z a g o c w hs hz hgb ha (by omega)) hz hgb ha hl
/-- What Open answers of Z. -/
def openErr (Z : List Int) : Int := if Z.length < 4 then 4 else if sealL (Z.take (Z.length - 4)) = Z then 0 else 5
def openOut (Z : List Int) : List Int := if openErr Z = 0 then Z.take (Z.length - 4) else []
theorem open_by {sv : Value} {b : Nat} (H : OfBy sv b) (Z : List Int) (g o c : Nat) (w : World) (hs : SumsSt w b) (hz : BytesAt w g o Z) (hgb : g ≠ b) (hl : Z.length ≤ 10000) (hc : Z.length ≤ c) :
    Calls Try.prog 19 #[sv, .slice (some ⟨g, o, none⟩) Z.length c] w fun e w' => ∃ v pg, e = .returned (.tuple #[v, .int .i64 (openErr Z)]) ∧ Fresh w w' v (openOut Z) pg ∧ SumsSt w' b ∧ Chg (· = b) w w' := by
  by_cases h4 : Z.length < 4
  · have e1 : openErr Z = 4 := by unfold openErr; rw [if_pos h4]
    have e2 : openOut Z = [] := by unfold openOut; rw [e1]; rfl
    rw [e1, e2]
    exact (open_short sv Z _ c w h4).mono fun e w' ⟨he, hw⟩ => by
      subst hw
      exact ⟨_, none, he, ⟨rfl, (fun g hg => by cases hg), fun _ => rfl⟩, hs, Chg.refl _ _⟩
  · have hA : Z.length = (Z.length - 4) + 4 := by omega
    have hT : (Z.take (Z.length - 4)).length ≤ 1000000 := by rw [List.length_take]; omega
    refine (open_gen sv (· = b) (SumsSt · b) (sums_stay b) Z (Z.length - 4) g o c w hs hz (fun w' h1 h2 => H _ _ g o c w' h1 h2 (fun _ => hgb) (fun _ => rfl) hT) hgb hl hA hc).mono fun e w' ⟨h1, h2, h3⟩ => ?_
    have hiff : sealL (Z.take (Z.length - 4)) = Z ↔ Z.drop (Z.length - 4) = fourL (ofI (Z.take (Z.length - 4))) := by
      rw [seal_iff]
      exact ⟨fun h => h.resolve_right (fun h => by omega), .inl⟩
    rcases h3 with ⟨hd, v, pg, he, hf⟩ | ⟨hd, he⟩
    · have e1 : openErr Z = 0 := by unfold openErr; rw [if_neg h4, if_pos (hiff.2 hd)]
      have e2 : openOut Z = Z.take (Z.length - 4) := by unfold openOut; rw [if_pos e1]
      rw [e1, e2]
      exact ⟨v, pg, he, hf, h1, h2⟩
    · have e1 : openErr Z = 5 := by unfold openErr; rw [if_neg h4, if_neg (fun h => hd (hiff.1 h))]
      have e2 : openOut Z = [] := by unfold openOut; rw [e1]; rfl
      rw [e1, e2]
      exact ⟨_, none, he, ⟨rfl, (fun g hg => by cases hg), fun _ => rfl⟩, h1, h2⟩
theorem refOpen_by (Z : List Int) (a : Option Addr) (g o c : Nat) (w : World) (hz : BytesAt w g o Z) (ha : 0 < Z.length → a = some ⟨g, o, none⟩) (hl : Z.length ≤ 10000) (hc : Z.length ≤ c) :
    Calls Try.prog 20 #[.slice a Z.length c] w fun e w' => ∃ v, e = .returned (.tuple #[v, .int .i64 (openErr Z)]) ∧ Own w' w.heap.size v (openOut Z) ∧ Chg (fun _ => False) w w' := by
  by_cases h4 : Z.length < 4
  · have e1 : openErr Z = 4 := by unfold openErr; rw [if_pos h4]
    have e2 : openOut Z = [] := by unfold openOut; rw [e1]; rfl
    rw [e1, e2]
    exact (refOpen_short Z _ c w h4).mono fun e w' ⟨he, hw⟩ => by
      subst hw
      exact ⟨_, he, .inl ⟨rfl, rfl⟩, Chg.refl _ _⟩
  · have hA : Z.length = (Z.length - 4) + 4 := by omega
    rw [ha (by omega)]
    refine (refOpen_long Z (Z.length - 4) g o c w hz (by omega) hA hc).mono fun e w' ⟨h2, h3⟩ => ?_
    rcases h3 with ⟨hd, v, he, hf⟩ | ⟨hd, he⟩
    · have e1 : openErr Z = 0 := by unfold openErr; rw [if_neg h4, if_pos hd]
      have e2 : openOut Z = Z.take (Z.length - 4) := by unfold openOut; rw [if_pos e1]
      rw [e1, e2]
      exact ⟨v, he, hf, h2⟩
    · have e1 : openErr Z = 5 := by unfold openErr; rw [if_neg h4, if_neg hd]
      have e2 : openOut Z = [] := by unfold openOut; rw [e1]; rfl
      rw [e1, e2]
      exact ⟨_, he, .inl ⟨rfl, rfl⟩, h2⟩
end Go.Proofs.Ytnfniilimgfjoaa
