/- The reference's memo: its lists, what is found in them. -/
import Derived.Test.YtoicneeecokglaaMemoL
import Derived.LoopTactic
import Derived.Maps.AppendAt
namespace Go.Proofs.Ytoicneeecokglaa
open Go.RowKit Go.Maps

abbrev Sd := Int × Int × Int
def saidCells (l : List Sd) : List Value := l.flatMap fun x => [.int .i64 x.1, .int .i64 x.2.1, .int .i64 x.2.2]
def findL (l : List Sd) (x y : Int) : Option Int := (l.find? fun e => e.1 == x && e.2.1 == y).map (·.2.2)
def fndV (o : Option Int) : Int := o.getD 0
def fndB (o : Option Int) : Bool := o.isSome
theorem saidCells_length (l : List Sd) : (saidCells l).length = l.length * 3 := by
  induction l with
  | nil => rfl
  | cons a l ih => simp only [saidCells, List.flatMap_cons, List.length_append, List.length_cons, List.length_nil] at *; omega
theorem saidCells_append (l m : List Sd) : saidCells (l ++ m) = saidCells l ++ saidCells m := by simp [saidCells]
theorem saidCells_get (l : List Sd) (k : Nat) (hk : k < l.length) : (saidCells l)[k * 3]? = some (.int .i64 l[k].1) ∧ (saidCells l)[k * 3 + 1]? = some (.int .i64 l[k].2.1) ∧ (saidCells l)[k * 3 + 2]? = some (.int .i64 l[k].2.2) := by
  induction l generalizing k with
  | nil => simp at hk
  | cons a l ih =>
    cases k with
    | zero => simp [saidCells]
    | succ k =>
      have := ih k (by simpa using hk)
      have e : ∀ j, (saidCells (a :: l))[(k + 1) * 3 + j]? = (saidCells l)[k * 3 + j]? := fun j => by
        rw [show (k + 1) * 3 + j = (k * 3 + j) + 3 by omega]
        rfl
      have e0 := e 0
      simp only [Nat.add_zero] at e0
      rw [e0, e 1, e 2]
      simpa using this
theorem findL_nil (x y : Int) : findL [] x y = none := rfl
theorem findL_hit {l : List Sd} {k : Nat} {x y : Int} (hk : k < l.length) (h1 : l[k].1 = x) (h2 : l[k].2.1 = y) : findL (l.drop k) x y = some l[k].2.2 := by
  unfold findL
  rw [List.drop_eq_getElem_cons hk, List.find?_cons_of_pos (by simp [h1, h2])]
  rfl
theorem findL_miss {l : List Sd} {k : Nat} {x y : Int} (hk : k < l.length) (h : ¬ (l[k].1 = x ∧ l[k].2.1 = y)) : findL (l.drop k) x y = findL (l.drop (k + 1)) x y := by
  unfold findL
  rw [List.drop_eq_getElem_cons hk, List.find?_cons_of_neg]
  intro h1
  simp at h1
  exact h h1

set_option maxHeartbeats 1000000 in
theorem find_any (B : Nat) (v : Value) (l : List Sd) (x y : Int) (w : World) (ho : w.ownsRow B 67 3 v l.length (saidCells l)) (hl : l.length ≤ 1000000000) :
    Calls Try.prog 25 #[v, .int .i64 x, .int .i64 y] w fun e w' => e = .returned (.tuple #[.int .i64 (fndV (findL l x y)), .bool (fndB (findL l x y))]) ∧ w = w' := by
  rcases ho.2 with ⟨rfl, hn⟩ | ⟨g, cap, cur, rfl, hg, hcur, hcap, hm, hsz, htk⟩
  · have : l = [] := List.eq_nil_of_length_eq_zero hn
    subst this
    go_enter Try.func25, Try.ntmps25
    go_wp2
    go_loop [8] (fun i => i = .int .i64 0) (fun _ => 0)
    case atStart => rfl
    case round =>
      subst hrel
      go_wp2
      go_ret2
      exact ⟨rfl, rfl⟩
  · have hc : ∀ j, j < l.length * 3 → w.cell? ⟨g, j, none⟩ = (saidCells l)[j]? := fun j hj => ho.cellAt j hj
    clear ho hcur hsz htk hm
    go_enter Try.func25, Try.ntmps25
    go_wp2
    go_loop [8] (fun i => ∃ k : Nat, k ≤ l.length ∧ i = .int .i64 k ∧ findL l x y = findL (l.drop k) x y) (fun i => l.length - (intOf i).toNat)
    case atStart => exact ⟨0, by omega, rfl, rfl⟩
    case round =>
      obtain ⟨k, hk, rfl, hf⟩ := hrel
      have HF := Lib.hid hf
      clear hf
      by_cases hlt : k < l.length
      · have HC := Lib.hid hc
        obtain ⟨e0, e1, e2⟩ := saidCells_get l k hlt
        have q0 := (hc (k * 3) (by omega)).trans e0
        have q1 := (hc (k * 3 + 1) (by omega)).trans e1
        have q2 := (hc (k * 3 + 2) (by omega)).trans e2
        have hhit := fun (h1 : l[k].1 = x) (h2 : l[k].2.1 = y) => HF.out.trans (findL_hit hlt h1 h2)
        have hmiss := fun (h : ¬ (l[k].1 = x ∧ l[k].2.1 = y)) => HF.out.trans (findL_miss hlt h)
        have HH := Lib.hid hhit
        have HM := Lib.hid hmiss
        clear e0 e1 e2 hc hhit hmiss
        generalize l[k] = z at *
        obtain ⟨a, b, c⟩ := z
        simp only at q0 q1 q2 HH HM
        by_cases h1 : a = x
        · have p1 : (a == x) = true := by simpa using h1
          by_cases h2 : b = y
          · have p2 : (b == y) = true := by simpa using h2
            have E := Lib.hid (HH.out h1 h2)
            clear h1 h2 HM HH
            go_wp2
            go_ret2
            exact ⟨by rw [E.out]; rfl, rfl⟩
          · have p2 : (b == y) = false := by simpa using h2
            have E := Lib.hid (HM.out (fun h => h2 h.2))
            clear h1 h2 HM HH
            go_wp2
            go_round
            case rel => exact ⟨k + 1, by omega, by go_num, E.out⟩
            case measure => simp [intOf]; omega
        · have p1 : (a == x) = false := by simpa using h1
          have E := Lib.hid (HM.out (fun h => h1 h.1))
          clear h1 HM HH
          go_wp2
          go_round
          case rel => exact ⟨k + 1, by omega, by go_num, E.out⟩
          case measure => simp [intOf]; omega
      · have : k = l.length := by omega
        subst this
        have e : findL l x y = none := by rw [HF.out]; simp [findL]
        have E := Lib.hid e
        clear e
        go_wp2
        go_ret2
        exact ⟨by rw [E.out]; rfl, rfl⟩
end Go.Proofs.Ytoicneeecokglaa
