/- Predicates asked of a list's own members alone; from which states something ends: the program's useful (printed by wip/gen/useful.py). A table of which nothing goes on where nothing ends any more: the program's bare. A map keyed by two ints, read as a function of the two: looked up, written, cleared. A map that numbers marks as they come: which are there, which number each has, how many. Numbers given to marks as they come; how many; refined till nothing more is told apart, plainly. Groups of states that are refined column by column come to what no text tells apart. The program's numbering of groups: a closure that asks of each state its mark and numbers the marks as they come. The marks that the program's groups are numbered by: two closures. A round of refining, plainly. -/
import Derived.Test.YtodohgckncnipaaGA5
import Derived.Deep.LoopGhost
import Derived.DeepKeys4
import Derived.ProofKit
/- Predicates asked of a list's own members alone; from which states something ends: the program's useful (printed by wip/gen/useful.py). -/
namespace Go.Proofs.Ytodohgckncnipaa
open Go.RowKit

/-- A predicate on a list's own members, as a function value. -/
def GivesM (f : FuncId) (lb : Array Value) (p : Int → Bool) (Z : List Int) (w : World) : Prop := ∀ x ∈ Z, ∀ w' : World, Chg (fun _ => False) w w' →
  Calls Try.prog f (#[.int .i64 x] ++ lb) w' fun e w'' => e = .returned (.bool (p x)) ∧ Chg (fun _ => False) w' w''

set_option maxRecDepth 100000 in
set_option maxHeartbeats 1000000 in
theorem indexIntM_any (f : FuncId) (lb : Array Value) (p : Int → Bool) (Z : List Int) (a : Option Addr) (c B : Nat) (w : World) (eg : ∀ args w, (callFunc f args).run Try.prog w = .ok (.enter f args) w) (h : intE.In w B (a, Z.length, c) Z) (hp : GivesM f lb p Z w) (hl : Z.length ≤ 1000000000) :
    Calls Try.prog 64 #[.slice a Z.length c, .func (.func f) #[] lb] w fun e w' => e = .returned (.int .i64 (idxV p Z)) ∧ Chg (fun _ => False) w w' := by
  have HL := Lib.hid h
  have HP := Lib.hid hp
  clear h hp
  go_enter Try.func64, Try.ntmps64
  go_wp2
  go_loopw [8] (fun q wr => ∃ k : Nat, k ≤ Z.length ∧ q = .int .i64 k ∧ (∀ (j : Nat) y, j < k → Z[j]? = some y → p y = false) ∧ Chg (fun _ => False) w wr) (fun q _ => Z.length - (intOf q).toNat)
  case atStart => exact ⟨0, by omega, rfl, fun j y h => absurd h (Nat.not_lt_zero _), Chg.refl _ _⟩
  case round =>
    obtain ⟨k, hk, rfl, hb, hc⟩ := hrel
    have HB := Lib.hid hb
    have HC := Lib.hid hc
    clear hb hc
    by_cases hkl : k < Z.length
    · have b9 : decide ((k : Int) < (Z.length : Int)) = true := by simp; omega
      obtain ⟨x, g, o, hx, rfl, c0, x0, x1, -, -⟩ := (HL.out.same HC.out).getI hkl
      have HX := Lib.hid hx
      clear hx
      have hcall := HP.out x (List.mem_of_getElem? HX.out) wr HC.out
      cases hxi : p x with
      | true =>
        rw [hxi] at hcall
        have HF : Hid (idxV p Z = k) := Lib.hid (idxV_found HX.out hxi HB.out)
        have HCALL := Lib.hid hcall
        clear hcall hxi
        go_wp2_with fail
        refine HCALL.out.mono ?_
        rintro e w2 ⟨rfl, hc2⟩
        have HC2 := Lib.hid (HC.out.trans hc2)
        clear hc2 c0
        go_wp2
        go_ret
        exact ⟨by rw [HF.out]; rfl, HC2.out⟩
      | false =>
        rw [hxi] at hcall
        have HB2 : Hid (∀ (j : Nat) y, j < k + 1 → Z[j]? = some y → p y = false) := Lib.hid (fun j y hj hy => by
          by_cases he : j = k
          · subst he; rw [HX.out] at hy; obtain rfl := Option.some.inj hy; exact hxi
          · exact HB.out j y (by omega) hy)
        have HCALL := Lib.hid hcall
        clear hcall hxi
        go_wp2_with fail
        refine HCALL.out.mono ?_
        rintro e w2 ⟨rfl, hc2⟩
        have HC2 := Lib.hid (HC.out.trans hc2)
        clear hc2 c0
        go_wp2
        go_roundw
        case rel => exact ⟨k + 1, by omega, by go_num, HB2.out, HC2.out⟩
        case measure => simp [intOf]; omega
    · obtain rfl : k = Z.length := by omega
      have HF : Hid (idxV p Z = -1) := Lib.hid (idxV_none HB.out)
      go_wp2
      go_ret
      exact ⟨by rw [HF.out]; rfl, HC.out⟩

set_option maxRecDepth 100000 in
theorem containsIM_any (f : FuncId) (lb : Array Value) (p : Int → Bool) (Z : List Int) (a : Option Addr) (c B : Nat) (w : World) (eg : ∀ args w, (callFunc f args).run Try.prog w = .ok (.enter f args) w) (h : intE.In w B (a, Z.length, c) Z) (hp : GivesM f lb p Z w) (hl : Z.length ≤ 1000000000) :
    Calls Try.prog 30 #[.slice a Z.length c, .func (.func f) #[] lb] w fun e w' => e = .returned (.bool (Z.any p)) ∧ Chg (fun _ => False) w w' := by
  have HL := Lib.hid h
  have HP := Lib.hid hp
  clear h hp
  rcases idx_cases p Z with ⟨k, x, -, -, h3, -, h5⟩ | ⟨h3, -, h5⟩
  all_goals
    have HI := Lib.hid h3
    have HN := Lib.hid h5
    clear h3 h5
    go_enter Try.func30, Try.ntmps30
    go_wp2_with fail
    refine (indexIntM_any f lb p Z a c B _ eg HL.out HP.out hl).mono ?_
    rintro e w2 ⟨rfl, hc2⟩
    rw [HI.out]
    have HC := Lib.hid hc2
    clear hc2
    go_wp2
    go_ret
    exact ⟨by rw [HN.out]; rfl, HC.out⟩

/-- A row of so many bools. -/
def BAt (w : World) (g n : Nat) (f : Nat → Bool) : Prop := boolE.Row w g ((List.range n).map f)
theorem BAt.same {w w' : World} {g n : Nat} {f : Nat → Bool} (h : BAt w g n f) (hc : Chg (fun _ => False) w w') : BAt w' g n f := Elt.Row.chg h hc (fun h => h)
theorem BAt.get {w : World} {g n : Nat} {f : Nat → Bool} (h : BAt w g n f) {j : Nat} (hj : j < n) : w.cell? ⟨g, j, none⟩ = some (.bool (f j)) ∧ w.frozen? ⟨g, j, none⟩ = false :=
  ⟨Elt.Row.get1 h (x := f j) (by simp [hj]) rfl rfl, h.z j⟩
theorem BAt.set {w : World} {g n : Nat} {f : Nat → Bool} (h : BAt w g n f) {j : Nat} (hj : j < n) (v : Bool) : BAt (w.setCell ⟨g, j, none⟩ (.bool v)) g n (fun s => if s = j then v else f s) := by
  have := Elt.Row.set1 h (k := j) (x := v) (u := .bool v) (by simp [hj]) trivial rfl rfl
  have e : ((List.range n).map f).set j v = (List.range n).map (fun s => if s = j then v else f s) := by
    apply List.ext_getElem?
    intro q
    by_cases hq : q < n
    · rw [List.getElem?_map, List.getElem?_range hq]
      by_cases hqj : q = j
      · subst hqj
        rw [List.getElem?_set_self (by simp [hq])]
        simp
      · rw [List.getElem?_set_ne (Ne.symm hqj), List.getElem?_map, List.getElem?_range hq]
        simp [hqj]
    · rw [List.getElem?_eq_none (by simp; omega), List.getElem?_eq_none (by simp; omega)]
  rw [e] at this
  exact this
theorem BAt.congr {w : World} {g n : Nat} {f f' : Nat → Bool} (h : BAt w g n f) (he : ∀ s, s < n → f s = f' s) : BAt w g n f' := by
  have e : (List.range n).map f = (List.range n).map f' := List.map_congr_left fun s hs => he s (List.mem_range.1 hs)
  unfold BAt at h ⊢
  rw [← e]
  exact h
section
variable {t : TabD}
/-- Does something end at once, or behind a state that is known to be useful? -/
def stepB (t : TabD) (f : Nat → Bool) (s : Nat) : Bool := decide (0 ≤ t.e.getD s 0) || (t.n.getD s []).any fun n => decide (0 ≤ n) && f n.toNat
def cntF (n : Nat) (f : Nat → Bool) : Nat := (List.range n).countP fun s => !f s
theorem cntF_le (n : Nat) (f : Nat → Bool) : cntF n f ≤ n := by
  have := List.countP_le_length (p := fun s => !f s) (l := List.range n)
  rwa [List.length_range] at this
theorem cntF_set {n : Nat} {f : Nat → Bool} {s : Nat} (hs : s < n) (h : f s = false) : cntF n (fun x => if x = s then true else f x) < cntF n f := by
  refine countP_lt (fun x _ hx => ?_) ⟨s, List.mem_range.2 hs, by simp [h], by simp⟩
  by_cases e : x = s
  · subst e; simp at hx
  · simpa [e] using hx
/-- What is known to be useful is. -/
def SoundU (t : TabD) (f : Nat → Bool) : Prop := ∀ s, s < t.n.length → f s = true → eqB t s t.n.length = false
theorem endN_lt {s : Nat} (hs : s < t.n.length) : endN t s = t.e.getD s 0 := by unfold endN; rw [if_pos hs]
theorem SoundU.step (ht : MayS t) {f : Nat → Bool} (h : SoundU t f) {s : Nat} (hs : s < t.n.length) (hst : stepB t f s = true) : SoundU t (fun x => if x = s then true else f x) := fun x hx hf => by
  by_cases e : x = s
  · subst e
    unfold stepB at hst
    rw [Bool.or_eq_true] at hst
    cases he : eqB t x t.n.length with
    | false => rfl
    | true =>
      exfalso
      rcases hst with h1 | h1
      · have := eqB_end he
        rw [endN_none, endN_lt hx] at this
        rw [decide_eq_true_eq] at h1
        omega
      · rw [List.any_eq_true] at h1
        obtain ⟨n, hn, h2⟩ := h1
        simp only [Bool.and_eq_true, decide_eq_true_eq] at h2
        have hrow : t.n.getD x [] ∈ t.n := getD_mem hx
        have hb := (ht.row _ hrow).2 n hn
        obtain ⟨c, hc⟩ := List.getElem?_of_mem hn
        have hrs : t.n[x]? = some (t.n.getD x []) := by rw [List.getD_eq_getElem?_getD, List.getElem?_eq_getElem hx]; rfl
        have hg := goN_at hrs hc
        rw [if_pos h2.1] at hg
        have hcl := (List.getElem?_eq_some_iff.1 hc).1
        have hcc := (may_row ht hrs).1
        have h3 := eqB_go ht (Nat.le_of_lt hx) (Nat.le_refl _) he (c := c) (by omega)
        rw [hg, goN_none] at h3
        rw [h n.toNat (by omega) h2.2] at h3
        cases h3
  · simp only [if_neg e] at hf
    exact h x hx hf
/-- Nothing more is found: it is all. -/
theorem useful_done (ht : MayS t) {f : Nat → Bool} (h : SoundU t f) (hcl : ∀ s, s < t.n.length → f s = false → stepB t f s = false) {s : Nat} (hs : s < t.n.length) : f s = !eqB t s t.n.length := by
  cases hf : f s with
  | true => rw [h s hs hf]; rfl
  | false =>
    have : eqB t s t.n.length = true := by
      refine eqB_max (fun a b => (a = t.n.length ∨ (a < t.n.length ∧ f a = false)) ∧ (b = t.n.length ∨ (b < t.n.length ∧ f b = false))) ?_ ?_ ⟨.inr ⟨hs, hf⟩, .inl rfl⟩
      · have key : ∀ a, (a = t.n.length ∨ (a < t.n.length ∧ f a = false)) → endN t a = -1 := fun a ha => by
          rcases ha with rfl | ⟨h1, h2⟩
          · exact endN_none t
          · have h3 := hcl a h1 h2
            unfold stepB at h3
            simp only [Bool.or_eq_false_iff, decide_eq_false_iff_not] at h3
            rw [endN_lt h1]
            have h4 := ht.eb _ (getD_mem (z := (0 : Int)) (k := a) (L := t.e) (by have := ht.el; omega))
            omega
        rintro a b ⟨ha, hb⟩
        rw [key a ha, key b hb]
      · have key : ∀ a, (a = t.n.length ∨ (a < t.n.length ∧ f a = false)) → ∀ c, goN t a c = t.n.length ∨ (goN t a c < t.n.length ∧ f (goN t a c) = false) := fun a ha c => by
          rcases ha with rfl | ⟨h1, h2⟩
          · exact .inl (goN_none t c)
          · have h3 := hcl a h1 h2
            unfold stepB at h3
            simp only [Bool.or_eq_false_iff] at h3
            have hrs : t.n[a]? = some (t.n.getD a []) := by rw [List.getD_eq_getElem?_getD, List.getElem?_eq_getElem h1]; rfl
            by_cases hcl2 : c < (t.n.getD a []).length
            · have hx : (t.n.getD a [])[c]? = some ((t.n.getD a [])[c]) := List.getElem?_eq_getElem hcl2
              rw [goN_at hrs hx]
              by_cases h0 : 0 ≤ (t.n.getD a [])[c]
              · rw [if_pos h0]
                have hb := ((may_row ht hrs).2 c _ hx).2
                refine .inr ⟨by omega, ?_⟩
                have h5 := h3.2
                rw [List.any_eq_false] at h5
                have h6 := h5 _ (List.mem_of_getElem? hx)
                simp only [Bool.and_eq_true, decide_eq_true_eq, not_and, Bool.not_eq_true] at h6
                exact h6 h0
              · rw [if_neg h0]; exact .inl rfl
            · left
              unfold goN
              rw [if_neg]
              rintro ⟨-, h5⟩
              rw [List.getD_eq_getElem?_getD, List.getElem?_eq_none (by omega)] at h5
              simp at h5
        rintro a b ⟨ha, hb⟩ c -
        exact ⟨key a ha c, key b hb c⟩
    rw [this]; rfl
end

set_option maxRecDepth 100000 in
set_option maxHeartbeats 1000000 in
theorem gives_useful (b g n : Nat) (f : Nat → Bool) (Z : List Int) (w : World) (hcell : w.cell? ⟨b, 0, none⟩ = some (.slice (some ⟨g, 0, none⟩) n n)) (h : BAt w g n f) (hZ : ∀ x ∈ Z, -1 ≤ x ∧ x < n) : GivesM 74 #[.pointer (some ⟨b, 0, none⟩)] (fun x => decide (0 ≤ x) && f x.toNat) Z w := by
  intro x hx w' hc
  have h2 := hc.cellS hcell (fun h => h)
  obtain ⟨b1, b2⟩ := hZ x hx
  show Calls Try.prog 74 #[.int .i64 x, .pointer (some ⟨b, 0, none⟩)] w' _
  by_cases h0 : 0 ≤ x
  · obtain ⟨m, rfl⟩ : ∃ m : Nat, x = m := ⟨x.toNat, by omega⟩
    have d1 : decide ((0 : Int) ≤ (m : Int)) = true := by simp
    have c0 := ((h.same hc).get (j := m) (by omega)).1
    have m1 : (m : Int) < (n : Int) := by omega
    have HF : Hid ((decide ((0 : Int) ≤ (m : Int)) && f ((m : Int).toNat)) = f m) := Lib.hid (by simp)
    go_enter Try.func74, Try.ntmps74
    go_wp2
    go_ret
    exact ⟨by rw [HF.out]; rfl, Chg.refl _ _⟩
  · have d1 : decide (0 ≤ x) = false := by simpa using h0
    have HF : Hid ((decide (0 ≤ x) && f x.toNat) = false) := Lib.hid (by rw [d1]; rfl)
    go_enter Try.func74, Try.ntmps74
    go_wp2
    go_ret
    exact ⟨rfl, Chg.refl _ _⟩

set_option maxRecDepth 100000 in
set_option maxHeartbeats 8000000 in
theorem useful_any (t : TabD) (rs cs ns es : Sl) (B : Nat) (w : World) (h : TabIn w B rs cs ns es t) (hm : MayS t) (hf : Fair t) :
    Calls Try.prog 59 #[tabV rs cs ns es] w fun e w' => ∃ g, e = .returned (.slice (some ⟨g, 0, none⟩) t.n.length t.n.length) ∧ w.heap.size ≤ g ∧ BAt w' g t.n.length (fun s => !eqB t s t.n.length) ∧ Chg (fun _ => False) w w' := by
  have HTB := Lib.hid h
  have HM := Lib.hid hm
  have HF := Lib.hid hf
  obtain ⟨ra, rn, rc⟩ := rs
  obtain ⟨ca, cn, cc⟩ := cs
  obtain ⟨na, nn, nc⟩ := ns
  obtain ⟨ea, en, ec⟩ := es
  obtain ⟨rfl, hn1⟩ := h.n.len
  obtain ⟨rfl, he1⟩ := h.e.len
  have fn := hf.n
  have HEL : Hid (t.e.length = t.n.length) := Lib.hid hm.el
  clear h hm hf
  obtain ⟨wa, hwa⟩ : ∃ x, x = w.alloc (.cells #[.slice ra rn rc, .slice ca cn cc, .slice na t.n.length nc, .slice ea t.e.length ec] 26) := ⟨_, rfl⟩
  have HC0 : Hid (Chg (fun _ => False) w wa) := Lib.hid (by rw [hwa]; exact (Chg.refl _ _).alloc _)
  have HSA : Hid (wa.heap.size = w.heap.size + 1) := Lib.hid (by rw [hwa]; simp)
  have HT0 : Hid (∀ wx, Chg (fun k => wa.heap.size ≤ k) wa wx → wx.cell? ⟨w.heap.size, 0, none⟩ = some (.slice ra rn rc) ∧ wx.cell? ⟨w.heap.size, 1, none⟩ = some (.slice ca cn cc) ∧ wx.cell? ⟨w.heap.size, 2, none⟩ = some (.slice na t.n.length nc) ∧ wx.cell? ⟨w.heap.size, 3, none⟩ = some (.slice ea t.e.length ec)) := Lib.hid (fun wx hx => by
    have hx := hx.fresh
    subst hwa
    exact (tabBox w (ra, rn, rc) (ca, cn, cc) (na, t.n.length, nc) (ea, t.e.length, ec) 26).chg hx (fun h => h))
  have HWA := Lib.hid hwa
  clear hwa
  obtain ⟨q0, q1, q2, q3⟩ := HT0.out wa (Chg.refl _ _)
  have eg := enters_of Try.func74 (by kernel_rfl) rfl
  show Calls Try.prog 59 #[.agg #[.slice ra rn rc, .slice ca cn cc, .slice na t.n.length nc, .slice ea t.e.length ec]] w _
  go_enter Try.func59, Try.ntmps59
  go_upto_region 1 with (fail)
  rw [← HWA.out]
  go_upto_region 2 with (at_make; refine boolE.wpList_make rfl _ _ _ rfl rfl _ _ _ _ t.n.length t.n.length rfl rfl rfl (by omega) (by omega) (by omega) ?_; intro w1 HR1 HC1)
  obtain ⟨w2, hw2⟩ : ∃ x, w1.alloc (.cells #[.slice (some ⟨wa.heap.size, 0, none⟩) t.n.length t.n.length] 47) = x := ⟨_, rfl⟩
  have HB0 : Hid (BAt w2 wa.heap.size t.n.length (fun _ => false)) := Lib.hid (by
    have e : (List.range t.n.length).map (fun _ => false) = List.replicate t.n.length boolE.z := by
      apply List.ext_getElem?
      intro q
      by_cases hq : q < t.n.length
      · simp [hq]; rfl
      · rw [List.getElem?_eq_none (by simp; omega), List.getElem?_eq_none (by simp; omega)]
    unfold BAt
    rw [e, ← hw2]
    exact HR1.out.chg ((Chg.refl (fun _ => False) _).alloc _) (fun h => h))
  have HC02 : Hid (Chg (fun _ => False) wa w2) := Lib.hid (by rw [← hw2]; exact HC1.out.trans ((Chg.refl _ _).alloc _))
  have hlt1 : wa.heap.size < w1.heap.size := HR1.out.lt
  have HLT1 := Lib.hid hlt1
  have HBX : Hid (∀ wx, Chg (fun k => k = wa.heap.size) w2 wx → wx.cell? ⟨w1.heap.size, 0, none⟩ = some (.slice (some ⟨wa.heap.size, 0, none⟩) t.n.length t.n.length)) := Lib.hid (fun wx hx => by
    rw [← hw2] at hx
    refine hx.cellS ?_ (fun e => by have e : w1.heap.size = wa.heap.size := e; omega)
    rw [World.cell?_alloc_new]
    rfl)
  have HTX : Hid (∀ wx, Chg (fun k => k = wa.heap.size) w2 wx → Chg (fun k => wa.heap.size ≤ k) wa wx) := Lib.hid (fun wx hx => HC02.out.any.trans (hx.mono (fun k _ e => by omega)))
  rw [hw2]
  clear hw2 hlt1 HR1 HC1 q0 q1 q2 q3
  go_wp2
  go_loopg [4] (t.n.length + 1) (fun gk v wr => ∃ (ch : Bool) (f : Nat → Bool), v = .bool ch ∧ BAt wr wa.heap.size t.n.length f ∧ SoundU t f ∧ (ch = false → ∀ s, s < t.n.length → f s = false → stepB t f s = false) ∧ (if ch = true then cntF t.n.length f + 1 else 0) ≤ gk ∧ Chg (fun k => k = wa.heap.size) w2 wr)
  case atStart => exact ⟨true, _, rfl, HB0.out, fun s _ h => (by cases h), (fun h => by cases h), by rw [if_pos rfl]; have := cntF_le t.n.length (fun _ => false); omega, Chg.refl _ _⟩
  case round =>
    clear HB0
    obtain ⟨ch, f, rfl, hb, hs, hcl, hg, hc⟩ := hrel
    have HB := Lib.hid hb
    have HSD := Lib.hid hs
    have HC := Lib.hid hc
    cases ch with
    | false =>
      have HFN := Lib.hid (hb.congr (f' := fun s => !eqB t s t.n.length) (fun s hsl => useful_done HM.out hs (hcl rfl) hsl))
      have HCE := Lib.hid (HC0.out.trans ((HTX.out wr hc).fresh))
      have o0 := HBX.out wr hc
      clear hb hs hcl hg hc HB HSD
      go_wp2
      go_ret
      exact ⟨_, rfl, by rw [HSA.out]; omega, HFN.out, HCE.out⟩
    | true =>
      have HG : Hid (cntF t.n.length f + 1 ≤ gk) := Lib.hid (by rw [if_pos rfl] at hg; exact hg)
      clear hb hs hcl hg hc
      have o0 := HBX.out wr HC.out
      go_wp2
      clear o0
      go_loopw [4, 13] (fun v q wr => ∃ (s : Nat) (ch : Bool) (f' : Nat → Bool), s ≤ t.n.length ∧ q = .int .i64 s ∧ v = .bool ch ∧ BAt wr wa.heap.size t.n.length f' ∧ SoundU t f' ∧ (ch = false → f' = f ∧ ∀ s', s' < s → f s' = false → stepB t f s' = false) ∧ (ch = true → cntF t.n.length f' < cntF t.n.length f) ∧ cntF t.n.length f' ≤ cntF t.n.length f ∧ Chg (fun k => k = wa.heap.size) w2 wr) (fun _ q _ => t.n.length - (intOf q).toNat)
      case atStart => exact ⟨0, false, f, by omega, rfl, rfl, HB.out, HSD.out, fun _ => ⟨rfl, fun s' h => absurd h (Nat.not_lt_zero _)⟩, (fun h => by cases h), Nat.le_refl _, HC.out⟩
      case round =>
        clear HB HSD HC
        obtain ⟨s, ch, f', hsn, rfl, rfl, hb, hs, hcl, hct, hcf, hc⟩ := hrel
        have HB := Lib.hid hb
        have HSD := Lib.hid hs
        have HCL := Lib.hid hcl
        have HCT := Lib.hid hct
        have HCF := Lib.hid hcf
        have HC := Lib.hid hc
        clear hb hs hcl hct hcf hc
        obtain ⟨q0, q1, q2, q3⟩ := HT0.out wr (HTX.out wr HC.out)
        have o0 := HBX.out wr HC.out
        by_cases hsl : s < t.n.length
        · have b1 : decide ((s : Int) < (t.n.length : Int)) = true := by simp; omega
          have b1' : s < t.n.length := hsl
          obtain ⟨c0, z0⟩ := HB.out.get hsl
          cases hfs : f' s with
          | true =>
            rw [hfs] at c0
            have HCL2 : Hid (ch = false → f' = f ∧ ∀ s', s' < s + 1 → f s' = false → stepB t f s' = false) := Lib.hid (fun h => by
              obtain ⟨e, h2⟩ := HCL.out h
              refine ⟨e, fun s' hs' hfs' => ?_⟩
              by_cases e2 : s' = s
              · subst e2; rw [← e, hfs] at hfs'; cases hfs'
              · exact h2 s' (by omega) hfs')
            clear hfs z0
            go_wp2
            go_roundw
            case rel => exact ⟨s + 1, ch, f', by omega, by go_num, rfl, HB.out, HSD.out, HCL2.out, HCT.out, HCF.out, HC.out⟩
            case measure => simp [intOf]; omega
          | false =>
            rw [hfs] at c0
            obtain ⟨x, g, o, hx, hea, ec0, x0, x1, -, -⟩ := (HTB.out.same (HC0.out.trans (HTX.out wr HC.out).fresh)).e.getI (k := s) (by have := HEL.out; omega)
            subst hea
            have hse : s < t.e.length := by have := HEL.out; omega
            have HX : Hid (t.e.getD s 0 = x) := Lib.hid (by rw [List.getD_eq_getElem?_getD, hx]; rfl)
            have HFS := Lib.hid hfs
            have HSETF : Hid (stepB t f' s = true → (BAt (wr.setCell ⟨wa.heap.size, s, none⟩ (.bool true)) wa.heap.size t.n.length (fun y => if y = s then true else f' y) ∧ SoundU t (fun y => if y = s then true else f' y) ∧ cntF t.n.length (fun y => if y = s then true else f' y) < cntF t.n.length f ∧ Chg (fun k => k = wa.heap.size) w2 (wr.setCell ⟨wa.heap.size, s, none⟩ (.bool true)))) := Lib.hid (fun h => ⟨HB.out.set hsl true, HSD.out.step HM.out hsl h, Nat.lt_of_lt_of_le (cntF_set hsl HFS.out) HCF.out, HC.out.trans (setCellChg _ _ _ _)⟩)
            clear hx hfs
            by_cases hx0 : 0 ≤ x
            · have d1 : decide (0 ≤ x) = true := by simpa using hx0
              have HST : Hid (stepB t f' s = true) := Lib.hid (by unfold stepB; rw [HX.out, d1]; rfl)
              go_wp2
              go_roundw
              case rel => exact ⟨s + 1, true, _, by omega, by go_num, rfl, (HSETF.out HST.out).1, (HSETF.out HST.out).2.1, (fun h => by cases h), fun _ => (HSETF.out HST.out).2.2.1, Nat.le_of_lt (HSETF.out HST.out).2.2.1, (HSETF.out HST.out).2.2.2⟩
              case measure => simp [intOf]; omega
            · have d1 : decide (0 ≤ x) = false := by simpa using hx0
              obtain ⟨l, gn, on, la, lc, hl, hna, n0, hin, -, -⟩ := (HTB.out.same (HC0.out.trans (HTX.out wr HC.out).fresh)).n.getIn hsl
              subst hna
              have HST : Hid (stepB t f' s = l.any fun n => decide (0 ≤ n) && f' n.toNat) := Lib.hid (by
                have e : t.n.getD s [] = l := by rw [List.getD_eq_getElem?_getD, hl]; rfl
                unfold stepB; rw [HX.out, d1, e]; rfl)
              have hlb := (may_row HM.out hl).2
              have HGV := Lib.hid (gives_useful w1.heap.size wa.heap.size t.n.length f' l wr o0 HB.out (fun y hy => by obtain ⟨j, hj⟩ := List.getElem?_of_mem hy; exact hlb j y hj))
              have hll := HF.out.l l (List.mem_of_getElem? hl)
              have HIN := Lib.hid hin
              clear hl hin hlb
              go_wp2_with fail
              refine (containsIM_any _ _ (fun n => decide (0 ≤ n) && f' n.toNat) l la lc B wr eg HIN.out HGV.out hll).mono ?_
              rintro e w5 ⟨rfl, hc5⟩
              rw [← HST.out]
              have HC5 := Lib.hid hc5
              have c0 := hc5.cellS c0 (fun h => h)
              have z0 := (hc5.frozen (p := ⟨wa.heap.size, s, none⟩) (HB.out.lt) (fun h => h)).trans z0
              have o0 := hc5.cellS o0 (fun h => h)
              clear hc5 n0 ec0 q0 q1 q2 q3
              cases hst : stepB t f' s with
              | true =>
                have HSET5 : Hid (BAt (w5.setCell ⟨wa.heap.size, s, none⟩ (.bool true)) wa.heap.size t.n.length (fun y => if y = s then true else f' y) ∧ Chg (fun k => k = wa.heap.size) w2 (w5.setCell ⟨wa.heap.size, s, none⟩ (.bool true))) := Lib.hid ⟨(HB.out.same HC5.out).set hsl true, (HC.out.trans HC5.out.any).trans (setCellChg _ _ _ _)⟩
                have HSF := Lib.hid (HSETF.out hst)
                clear hst
                go_wp2
                go_roundw
                case rel => exact ⟨s + 1, true, _, by omega, by go_num, rfl, HSET5.out.1, HSF.out.2.1, (fun h => by cases h), fun _ => HSF.out.2.2.1, Nat.le_of_lt HSF.out.2.2.1, HSET5.out.2⟩
                case measure => simp [intOf]; omega
              | false =>
                have HCL2 : Hid (ch = false → f' = f ∧ ∀ s', s' < s + 1 → f s' = false → stepB t f s' = false) := Lib.hid (fun h => by
                  obtain ⟨e, h2⟩ := HCL.out h
                  refine ⟨e, fun s' hs' hfs' => ?_⟩
                  by_cases e2 : s' = s
                  · subst e2; rw [← e]; exact hst
                  · exact h2 s' (by omega) hfs')
                have HB5 := Lib.hid (HB.out.same HC5.out)
                have HCW5 := Lib.hid (HC.out.trans HC5.out.any)
                clear hst
                go_wp2
                go_roundw
                case rel => exact ⟨s + 1, ch, f', by omega, by go_num, rfl, HB5.out, HSD.out, HCL2.out, HCT.out, HCF.out, HCW5.out⟩
                case measure => simp [intOf]; omega
        · obtain rfl : s = t.n.length := by omega
          have b1' : ¬ t.n.length < t.n.length := by omega
          have HR : Hid ((ch = false → ∀ s, s < t.n.length → f' s = false → stepB t f' s = false) ∧ (if ch = true then cntF t.n.length f' + 1 else 0) < gk) := Lib.hid (by
            refine ⟨fun h s hsl hfs => ?_, ?_⟩
            · obtain ⟨e, h2⟩ := HCL.out h
              rw [e] at hfs ⊢
              exact h2 s hsl hfs
            · have hg := HG.out
              cases ch with
              | true => have := HCT.out rfl; rw [if_pos rfl]; omega
              | false => rw [if_neg (by decide)]; omega)
          clear q0 q1 q2 q3 o0
          go_wp2
          go_roundg (if ch = true then cntF t.n.length f' + 1 else 0)
          case measure => exact HR.out.2
          case rel => exact ⟨ch, f', rfl, HB.out, HSD.out, HR.out.1, Nat.le_refl _, HC.out⟩
end Go.Proofs.Ytodohgckncnipaa
/- A table of which nothing goes on where nothing ends any more: the program's bare. -/
namespace Go.Proofs.Ytodohgckncnipaa
open Go.RowKit

def bareX (t : TabD) (n : Int) : Int := if 0 ≤ n ∧ eqB t n.toNat t.n.length = true then -1 else n
def bareL (t : TabD) (l : List Int) : List Int := l.map (bareX t)
def bareT (t : TabD) : TabD := ⟨t.r, t.c, t.n.map (bareL t), t.e⟩
theorem bareX_ok {t : TabD} {x : Int} (h : I.Byte x) : I.Byte (bareX t x) := by
  unfold bareX
  split
  · constructor <;> omega
  · exact h
/-- Rows that are made: those ahead of s are. -/
structure BareAt (w : World) (gN : Nat) (t : TabD) (s : Nat) : Prop where
  x : ∃ X : List Sl, listE.Row w gN X ∧ X.length = t.n.length ∧ ∀ (j : Nat) y l, j < s → X[j]? = some y → t.n[j]? = some l → intE.Own w (gN + 1) (slV y) (bareL t l)
theorem BareAt.chg {S : Nat → Prop} {w w' : World} {gN : Nat} {t : TabD} {s : Nat} (h : BareAt w gN t s) (hc : Chg S w w') (hs : ∀ g, gN ≤ g → g < w.heap.size → ¬ S g) : BareAt w' gN t s := by
  obtain ⟨X, h1, h2, h3⟩ := h.x
  exact ⟨X, h1.chg hc (hs gN (Nat.le_refl _) h1.lt), h2, fun j y l hj hy hl => (h3 j y l hj hy hl).chg hc (fun g hg => hs g (by omega))⟩
theorem BareAt.lt {w : World} {gN : Nat} {t : TabD} {s : Nat} (h : BareAt w gN t s) : gN < w.heap.size := by
  obtain ⟨X, h1, h2, h3⟩ := h.x
  exact h1.lt
theorem BareAt.cell {w : World} {gN : Nat} {t : TabD} {s k : Nat} (h : BareAt w gN t s) (hk : k < t.n.length) : ∃ y : Sl, w.cell? ⟨gN, k, none⟩ = some (slV y) ∧ w.frozen? ⟨gN, k, none⟩ = false := by
  obtain ⟨X, h1, h2, h3⟩ := h.x
  have hx : X[k]? = some X[k] := List.getElem?_eq_getElem (by omega)
  exact ⟨_, h1.get1 hx rfl rfl, h1.z k⟩
/-- A row's slice is laid. -/
theorem BareAt.lay {w : World} {gN : Nat} {t : TabD} {s : Nat} (h : BareAt w gN t s) (hs : s < t.n.length) (y : Sl) : BareAt (w.setCell ⟨gN, s, none⟩ (slV y)) gN t s ∧ (w.setCell ⟨gN, s, none⟩ (slV y)).cell? ⟨gN, s, none⟩ = some (slV y) := by
  obtain ⟨X, h1, h2, h3⟩ := h.x
  have hrow := h1.set1 (k := s) (x := y) (u := slV y) (by omega) trivial rfl rfl
  refine ⟨⟨X.set s y, hrow, by simp [h2], fun j z l hj hz hl => ?_⟩, ?_⟩
  · rw [List.getElem?_set_ne (by omega)] at hz
    exact (h3 j z l hj hz hl).chg (setCellChg _ _ _ _) (fun g hg _ e => by omega)
  · exact hrow.get1 (x := y) (by rw [List.getElem?_set_self (by omega)]) rfl rfl
/-- And behind it blocks are made. -/
theorem BareAt.lay2 {wo w3 w' : World} {gN : Nat} {t : TabD} {s : Nat} (h : BareAt wo gN t s) (hc : Chg (fun _ => False) wo w3) (hs : s < t.n.length) (y : Sl) (hc' : Chg (fun k => wo.heap.size ≤ k) (w3.setCell ⟨gN, s, none⟩ (slV y)) w') : BareAt w' gN t s ∧ w'.cell? ⟨gN, s, none⟩ = some (slV y) := by
  obtain ⟨X, h1, h2, h3⟩ := h.x
  have hlt := h1.lt
  have hno : ¬ wo.heap.size ≤ gN := by omega
  have hrow := ((h1.chg hc (fun h => h)).set1 (k := s) (x := y) (u := slV y) (by omega) trivial rfl rfl).chg hc' hno
  refine ⟨⟨X.set s y, hrow, by simp [h2], fun j z l hj hz hl => ?_⟩, hrow.get1 (x := y) (by rw [List.getElem?_set_self (by omega)]) rfl rfl⟩
  rw [List.getElem?_set_ne (by omega)] at hz
  have ho := h3 j z l hj hz hl
  exact ((ho.chg hc (fun _ _ _ h => h)).chg (setCellChg _ _ _ _) (fun g hg _ e => by omega)).chgB hc' (fun g hg e => by have := (ho.blk hg).2; omega)
/-- It is filled. -/
theorem BareAt.next {w : World} {gN : Nat} {t : TabD} {s : Nat} (h : BareAt w gN t s) {y : Sl} {l : List Int} (hy : w.cell? ⟨gN, s, none⟩ = some (slV y)) (hl : t.n[s]? = some l) (ho : intE.Own w (gN + 1) (slV y) (bareL t l)) : BareAt w gN t (s + 1) := by
  obtain ⟨X, h1, h2, h3⟩ := h.x
  refine ⟨X, h1, h2, fun j z l' hj hz hl' => ?_⟩
  by_cases e : j = s
  · subst e
    rw [hl] at hl'
    obtain rfl := Option.some.inj hl'
    have hc := h1.get1 hz rfl rfl
    rw [hy] at hc
    have e2 : slV y = slV z := Option.some.inj hc
    rw [← e2]
    exact ho
  · exact h3 j z l' (by omega) hz hl'
theorem BareAt.done {w : World} {gN : Nat} {t : TabD} (h : BareAt w gN t t.n.length) : ListsIn w gN (some ⟨gN, 0, none⟩, t.n.length, t.n.length) (bareT t).n := by
  obtain ⟨X, h1, h2, h3⟩ := h.x
  refine ⟨X, ⟨h2.symm, Nat.le_refl _, gN, 0, h1.at' (List.prefix_refl _), fun _ => ⟨rfl, Nat.le_refl _⟩⟩, by unfold bareT; simp [h2], fun j y l hy hl => ?_⟩
  unfold bareT at hl
  simp only [List.getElem?_map] at hl
  cases hn : t.n[j]? with
  | none => rw [hn] at hl; cases hl
  | some l' =>
    rw [hn] at hl
    obtain rfl := Option.some.inj hl
    have ho := (h3 j y l' (List.getElem?_eq_some_iff.1 hn).1 hy hn).lower (B' := gN) (by omega)
    obtain ⟨y1, y2, y3⟩ := y
    obtain ⟨a2, c2, e2, hc2, _⟩ := ho.clip
    unfold slV at e2
    injection e2 with f1 f2 f3
    simp only at f1 f2 f3
    subst f1 f2 f3
    exact ho.in' hc2

set_option maxRecDepth 100000 in
set_option maxHeartbeats 8000000 in
theorem bare_any (t : TabD) (rs cs ns es : Sl) (B : Nat) (w : World) (h : TabIn w B rs cs ns es t) (hm : MayS t) (hf : Fair t) :
    Calls Try.prog 27 #[tabV rs cs ns es] w fun e w' => ∃ g, e = .returned (tabV rs cs (some ⟨g, 0, none⟩, t.n.length, t.n.length) es) ∧ w.heap.size ≤ g ∧ ListsIn w' g (some ⟨g, 0, none⟩, t.n.length, t.n.length) (bareT t).n ∧ Chg (fun _ => False) w w' := by
  have HTB := Lib.hid h
  have HM := Lib.hid hm
  have HF := Lib.hid hf
  obtain ⟨ra, rn, rc⟩ := rs
  obtain ⟨ca, cn, cc⟩ := cs
  obtain ⟨na, nn, nc⟩ := ns
  obtain ⟨ea, en, ec⟩ := es
  obtain ⟨rfl, hn1⟩ := h.n.len
  have fn := hf.n
  clear h hm hf
  obtain ⟨wa, hwa⟩ : ∃ x, x = (w.alloc (.cells #[.slice ra rn rc, .slice ca cn cc, .slice na t.n.length nc, .slice ea en ec] 26)).alloc (.cells #[.slice none 0 0, .slice none 0 0, .slice none 0 0, .slice none 0 0] 26) := ⟨_, rfl⟩
  have HC0 : Hid (Chg (fun _ => False) w wa) := Lib.hid (by rw [hwa]; exact ((Chg.refl _ _).alloc _).alloc _)
  have HSA : Hid (wa.heap.size = w.heap.size + 2) := Lib.hid (by rw [hwa]; simp)
  have HT0 : Hid (∀ wx, Chg (fun k => wa.heap.size ≤ k) wa wx → (wx.cell? ⟨w.heap.size, 0, none⟩ = some (.slice ra rn rc) ∧ wx.cell? ⟨w.heap.size, 1, none⟩ = some (.slice ca cn cc) ∧ wx.cell? ⟨w.heap.size, 2, none⟩ = some (.slice na t.n.length nc) ∧ wx.cell? ⟨w.heap.size, 3, none⟩ = some (.slice ea en ec)) ∧ ∀ j, wx.frozen? ⟨w.heap.size, j, none⟩ = false) := Lib.hid (fun wx hx => by
    have hx := hx.fresh
    subst hwa
    have h1 := ((Chg.refl (fun _ => False) _).alloc _).trans hx
    exact ⟨(tabBox w (ra, rn, rc) (ca, cn, cc) (na, t.n.length, nc) (ea, en, ec) 26).chg h1 (fun h => h), fun j => (h1.frozen (p := ⟨w.heap.size, j, none⟩) (by simp) (fun h => h)).trans (World.frozen?_alloc_new _ _ _ _)⟩)
  have HR0 : Hid (∀ wx, Chg (fun k => wa.heap.size ≤ k ∨ k = w.heap.size) wa wx → (wx.cell? ⟨w.heap.size + 1, 0, none⟩ = some (.slice none 0 0) ∧ wx.cell? ⟨w.heap.size + 1, 1, none⟩ = some (.slice none 0 0) ∧ wx.cell? ⟨w.heap.size + 1, 2, none⟩ = some (.slice none 0 0) ∧ wx.cell? ⟨w.heap.size + 1, 3, none⟩ = some (.slice none 0 0)) ∧ ∀ j, wx.frozen? ⟨w.heap.size + 1, j, none⟩ = false) := Lib.hid (fun wx hx => by
    obtain ⟨wt, hwt⟩ : ∃ x, x = w.alloc (.cells #[.slice ra rn rc, .slice ca cn cc, .slice na t.n.length nc, .slice ea en ec] 26) := ⟨_, rfl⟩
    rw [← hwt] at hwa
    have hst : wt.heap.size = w.heap.size + 1 := by rw [hwt]; simp
    have hsz : wa.heap.size = wt.heap.size + 1 := by rw [hwa]; simp
    rw [← hst]
    have hno : ¬ (wa.heap.size ≤ wt.heap.size ∨ wt.heap.size = w.heap.size) := by omega
    have hz : ∀ j, wa.frozen? ⟨wt.heap.size, j, none⟩ = false := fun j => by rw [hwa]; exact World.frozen?_alloc_new _ _ _ _
    refine ⟨⟨hx.cellS ?_ hno, hx.cellS ?_ hno, hx.cellS ?_ hno, hx.cellS ?_ hno⟩, fun j => (hx.frozen (p := ⟨wt.heap.size, j, none⟩) (by show wt.heap.size < _; omega) hno).trans (hz j)⟩ <;> · rw [hwa, World.cell?_alloc_new]; rfl)
  have HWA := Lib.hid hwa
  clear hwa
  obtain ⟨⟨q0, q1, q2, q3⟩, -⟩ := HT0.out wa (Chg.refl _ _)
  show Calls Try.prog 27 #[.agg #[.slice ra rn rc, .slice ca cn cc, .slice na t.n.length nc, .slice ea en ec]] w _
  go_enter Try.func27, Try.ntmps27
  go_upto_region 1 with (fail)
  rw [← HWA.out]
  go_wp2_with fail
  refine (useful_any t (ra, rn, rc) (ca, cn, cc) (na, t.n.length, nc) (ea, en, ec) B wa (HTB.out.same HC0.out) HM.out HF.out).mono ?_
  rintro e w1 ⟨gu, rfl, hgu, hbu, hc⟩
  have HC1 := Lib.hid hc
  have HBU := Lib.hid hbu
  have HGU := Lib.hid hgu
  clear hc hbu hgu q0 q1 q2 q3
  obtain ⟨⟨q0, q1, q2, q3⟩, -⟩ := HT0.out w1 HC1.out.any
  go_upto_region 3 with (at_make; refine listE.wpList_make rfl _ _ _ rfl rfl _ _ _ _ t.n.length t.n.length rfl rfl rfl (by omega) (by omega) (by omega) ?_; intro w2 HR2 HC2)
  have HB2 : Hid (BareAt w2 w1.heap.size t 0) := Lib.hid ⟨_, HR2.out, by simp, fun j y l h => absurd h (Nat.not_lt_zero _)⟩
  have HC12 : Hid (Chg (fun _ => False) wa w2) := Lib.hid (HC1.out.trans HC2.out)
  have HS12 : Hid (wa.heap.size ≤ w1.heap.size ∧ w1.heap.size < w2.heap.size) := Lib.hid ⟨HC1.out.size, HB2.out.lt⟩
  have HBU2 := Lib.hid (HBU.out.same HC2.out)
  have HGU2 : Hid (gu < w1.heap.size) := Lib.hid HBU.out.lt
  clear HR2 HC2 HC1 HBU q0 q1 q2 q3
  obtain ⟨⟨q0, q1, q2, q3⟩, -⟩ := HT0.out w2 HC12.out.any
  go_wp2
  go_loopw [18] (fun q wr => ∃ (s : Nat), s ≤ t.n.length ∧ q = .int .i64 s ∧ BareAt wr w1.heap.size t s ∧ Chg (fun k => w1.heap.size ≤ k) w2 wr) (fun q _ => t.n.length - (intOf q).toNat)
  case atStart => exact ⟨0, by omega, rfl, HB2.out, Chg.refl _ _⟩
  case round =>
    clear HB2 q0 q1 q2 q3
    obtain ⟨s, hs, rfl, hb, hc⟩ := hrel
    have HB := Lib.hid hb
    have HC := Lib.hid hc
    have HCA : Hid (Chg (fun k => wa.heap.size ≤ k) wa wr) := Lib.hid (HC12.out.any.trans (hc.mono (fun k _ e => by have := HS12.out; omega)))
    clear hb hc
    obtain ⟨⟨q0, q1, q2, q3⟩, q4⟩ := HT0.out wr HCA.out
    by_cases hsl : s < t.n.length
    · have b1 : s < t.n.length := hsl
      obtain ⟨l, gn, on, la, lc, hl, hna, n0, hin, hgn, -⟩ := HTB.out.n.getIn hsl
      subst hna
      have n0 := (HC0.out.trans HCA.out.fresh).cellS n0 (fun h => h)
      have hll := HF.out.l l (List.mem_of_getElem? hl)
      have hlb := (may_row HM.out hl).2
      have HL := Lib.hid (show _ ∧ _ from ⟨hl, hlb⟩)
      have HIN := Lib.hid hin
      clear hl hin hlb
      go_wp2_with fail
      refine (cloneInt l la lc B wr (HIN.out.same (HC0.out.trans HCA.out.fresh)) hll).mono ?_
      rintro e w3 ⟨v, rfl, ho, hc3⟩
      obtain ⟨va, vc, rfl, hvc, -⟩ := ho.clip
      have HO3 := Lib.hid ho
      have HC3 := Lib.hid hc3
      have HB3 := Lib.hid (HB.out.chg hc3 (fun _ _ _ h => h))
      obtain ⟨⟨ya, yn, yc⟩, hy, hyz⟩ := HB3.out.cell hsl
      have hy : w3.cell? ⟨w1.heap.size, s, none⟩ = some (.slice ya yn yc) := hy
      obtain ⟨hlay, hlc⟩ := HB3.out.lay hsl (va, l.length, vc)
      have HLAY := Lib.hid hlay
      have HLC := Lib.hid hlc
      have HSR : Hid (w1.heap.size < wr.heap.size ∧ wr.heap.size ≤ w3.heap.size) := Lib.hid ⟨HB.out.lt, hc3.size⟩
      have n1 := hc3.cellS n0 (fun h => h)
      clear ho hc3 hlay hlc q0 q1 q2 q3 n0
      go_upto_region 7 with (fail)
      clear hy hyz
      obtain ⟨w4, hw4⟩ : ∃ x, x = w3.setCell ⟨w1.heap.size, s, none⟩ (.slice va l.length vc) := ⟨_, rfl⟩
      have HBL : Hid (∀ wx, Chg (fun k => wr.heap.size ≤ k) w4 wx → BareAt wx w1.heap.size t s ∧ wx.cell? ⟨w1.heap.size, s, none⟩ = some (slV (va, l.length, vc))) := Lib.hid (fun wx hx => by
        rw [hw4] at hx
        exact HB.out.lay2 HC3.out hsl (va, l.length, vc) hx)
      have hs4 : Chg (fun k => k = w1.heap.size) w3 w4 := by rw [hw4]; exact setCellChg _ _ _ _
      have HO4 := Lib.hid (HO3.out.chg hs4 (fun g hg _ e => by have := HSR.out; omega))
      have HC4 : Hid (Chg (fun k => w1.heap.size ≤ k) w2 w4) := Lib.hid ((HC.out.trans HC3.out.any).trans (hs4.mono (fun k _ e => by omega)))
      have HS4 : Hid (w3.heap.size ≤ w4.heap.size) := Lib.hid hs4.size
      rw [← hw4]
      clear hw4 hs4 n1 HO3 HB3 HC3
      obtain ⟨wo, rfl⟩ : ∃ wo : World, wo = wr := ⟨_, rfl⟩
      go_wp2
      go_loopw [30] (fun q wr => ∃ (c : Nat) (Y : List Int), c ≤ l.length ∧ q = .int .i64 c ∧ intE.Own wr wo.heap.size (.slice va l.length vc) Y ∧ Y.length = l.length ∧ (∀ j, j < c → Y[j]? = (bareL t l)[j]?) ∧ (∀ j, c ≤ j → Y[j]? = l[j]?) ∧ Chg (fun k => wo.heap.size ≤ k) w4 wr) (fun q _ => l.length - (intOf q).toNat)
      case atStart => exact ⟨0, l, by omega, rfl, HO4.out, rfl, fun j h => absurd h (Nat.not_lt_zero _), fun j _ => rfl, Chg.refl _ _⟩
      case round =>
        clear HO4
        obtain ⟨c, Y, hcl, rfl, ho, hyl, hy1, hy2, hch⟩ := hrel
        have HO := Lib.hid ho
        have HYL := Lib.hid hyl
        have HY1 := Lib.hid hy1
        have HY2 := Lib.hid hy2
        have HCI := Lib.hid hch
        have HCZ : Hid (Chg (fun k => wa.heap.size ≤ k) wa wr) := Lib.hid ((HC12.out.any.trans (HC4.out.mono (fun k _ e => by have := HS12.out; omega))).trans (hch.mono (fun k _ e => by have := HS12.out; have := HSR.out; omega)))
        clear ho hyl hy1 hy2 hch
        by_cases hcl2 : c < l.length
        · have b2 : c < l.length := hcl2
          obtain ⟨x, gx, ox, hx, hxa, c0, x0, x1, -, -⟩ := (HIN.out.same (HC0.out.trans HCZ.out.fresh)).getI hcl2
          subst hxa
          obtain ⟨b3, b4⟩ := HL.out.2 c x hx
          have HX := Lib.hid hx
          have HBX : Hid ((bareL t l)[c]? = some (bareX t x)) := Lib.hid (by unfold bareL; rw [List.getElem?_map, hx]; rfl)
          have HKEEP : Hid (bareX t x = x → (∀ j, j < c + 1 → Y[j]? = (bareL t l)[j]?) ∧ ∀ j, c + 1 ≤ j → Y[j]? = l[j]?) := Lib.hid (fun h => ⟨fun j hj => by
            by_cases e : j = c
            · subst e; rw [HBX.out, h, HY2.out j (Nat.le_refl _), HX.out]
            · exact HY1.out j (by omega), fun j hj => HY2.out j (by omega)⟩)
          clear hx
          by_cases hx0 : 0 ≤ x
          · obtain ⟨m, rfl⟩ : ∃ m : Nat, x = m := ⟨x.toNat, by omega⟩
            have hmn : m < t.n.length := by omega
            have hbu : BAt wr gu t.n.length (fun s => !eqB t s t.n.length) := Elt.Row.chg (Elt.Row.chg HBU2.out HC4.out (by have := HGU2.out; omega)) HCI.out (by have := HGU2.out; have := HSR.out; omega)
            have g0 := (hbu.get hmn).1
            have m1 : (m : Int) < (t.n.length : Int) := by omega
            clear hbu
            cases he : eqB t m t.n.length with
            | true =>
              rw [he] at g0
              have hbx : bareX t (m : Int) = -1 := by unfold bareX; rw [if_pos ⟨by omega, by rw [Int.toNat_natCast]; exact he⟩]
              obtain ⟨gy, y0, -, -, hga, hyx, k0, kz, -, -, hgyB, hgyl⟩ := intOwn_get HO.out (k := c) (by have := HYL.out; omega)
              subst hga
              have hnx : wr.cell? ⟨w1.heap.size, s, none⟩ = some (.slice (some ⟨gy, 0, none⟩) l.length vc) := (HBL.out wr HCI.out).2
              have HSETO := Lib.hid (intOwn_set HO.out (k := c) (x := -1) (by have := HYL.out; omega) (by constructor <;> omega))
              have HCS := Lib.hid (HCI.out.trans ((setCellChg wr gy c (.int .i64 (-1))).mono (T := fun k => wo.heap.size ≤ k) (fun k _ e => by omega)))
              have HK : Hid ((Y.set c (-1)).length = l.length ∧ (∀ j, j < c + 1 → (Y.set c (-1))[j]? = (bareL t l)[j]?) ∧ ∀ j, c + 1 ≤ j → (Y.set c (-1))[j]? = l[j]?) := Lib.hid ⟨by rw [List.length_set]; exact HYL.out, fun j hj => by
                by_cases e : j = c
                · subst e; rw [List.getElem?_set_self (by have := HYL.out; omega), HBX.out, hbx]
                · rw [List.getElem?_set_ne (Ne.symm e)]; exact HY1.out j (by omega), fun j hj => by rw [List.getElem?_set_ne (by omega)]; exact HY2.out j (by omega)⟩
              clear he hbx hyx
              go_wp2
              go_roundw
              case rel => exact ⟨c + 1, _, by omega, by go_num, HSETO.out, HK.out.1, HK.out.2.1, HK.out.2.2, HCS.out⟩
              case measure => simp [intOf]; omega
            | false =>
              rw [he] at g0
              have hbx : bareX t (m : Int) = m := by unfold bareX; rw [if_neg (by rw [Int.toNat_natCast, he]; simp)]
              have HK := Lib.hid (HKEEP.out hbx)
              clear he hbx
              go_wp2
              go_roundw
              case rel => exact ⟨c + 1, Y, by omega, by go_num, HO.out, HYL.out, HK.out.1, HK.out.2, HCI.out⟩
              case measure => simp [intOf]; omega
          · have hbx : bareX t x = x := by unfold bareX; rw [if_neg (by omega)]
            have HK := Lib.hid (HKEEP.out hbx)
            have d1 : decide (0 ≤ x) = false := by simpa using hx0
            clear hbx
            go_wp2
            go_roundw
            case rel => exact ⟨c + 1, Y, by omega, by go_num, HO.out, HYL.out, HK.out.1, HK.out.2, HCI.out⟩
            case measure => simp [intOf]; omega
        · obtain rfl : c = l.length := by omega
          have b2 : ¬ l.length < l.length := by omega
          have HBN : Hid (BareAt wr w1.heap.size t (s + 1)) := Lib.hid (by
            obtain ⟨h1, h2⟩ := HBL.out wr HCI.out
            have e : Y = bareL t l := by
              apply List.ext_getElem?
              intro j
              by_cases hj : j < l.length
              · exact HY1.out j hj
              · rw [List.getElem?_eq_none (by have := HYL.out; omega), List.getElem?_eq_none (by unfold bareL; simp; omega)]
            have ho := HO.out
            rw [e] at ho
            exact h1.next (y := (va, l.length, vc)) h2 HL.out.1 (ho.lower (by have := HSR.out; omega)))
          have HCN : Hid (Chg (fun k => w1.heap.size ≤ k) w2 wr) := Lib.hid (HC4.out.trans (HCI.out.mono (fun k _ e => by have := HSR.out; omega)))
          go_wp2
          go_roundw
          case rel => exact ⟨s + 1, by omega, by go_num, HBN.out, HCN.out⟩
          case measure => simp [intOf]; omega
    · obtain rfl : s = t.n.length := by omega
      have b1 : ¬ t.n.length < t.n.length := by omega
      have HLI := Lib.hid HB.out.done
      have z2 := q4 2
      have hsc2 := setCellChg wr w.heap.size 2 (.slice (some ⟨w1.heap.size, 0, none⟩) t.n.length t.n.length)
      have u0 : (wr.setCell ⟨w.heap.size, 2, none⟩ (.slice (some ⟨w1.heap.size, 0, none⟩) t.n.length t.n.length)).cell? ⟨w.heap.size, 0, none⟩ = some (.slice ra rn rc) := by rw [World.cell?_setCell_other _ _ _ _ (by intro e; injection e with _ e; cases e)]; exact q0
      have u1 : (wr.setCell ⟨w.heap.size, 2, none⟩ (.slice (some ⟨w1.heap.size, 0, none⟩) t.n.length t.n.length)).cell? ⟨w.heap.size, 1, none⟩ = some (.slice ca cn cc) := by rw [World.cell?_setCell_other _ _ _ _ (by intro e; injection e with _ e; cases e)]; exact q1
      have u2 : (wr.setCell ⟨w.heap.size, 2, none⟩ (.slice (some ⟨w1.heap.size, 0, none⟩) t.n.length t.n.length)).cell? ⟨w.heap.size, 2, none⟩ = some (.slice (some ⟨w1.heap.size, 0, none⟩) t.n.length t.n.length) := World.cell?_setCell_same _ _ _ q2
      have u3 : (wr.setCell ⟨w.heap.size, 2, none⟩ (.slice (some ⟨w1.heap.size, 0, none⟩) t.n.length t.n.length)).cell? ⟨w.heap.size, 3, none⟩ = some (.slice ea en ec) := by rw [World.cell?_setCell_other _ _ _ _ (by intro e; injection e with _ e; cases e)]; exact q3
      obtain ⟨⟨y0, y1, y2, y3⟩, y4⟩ := HR0.out (wr.setCell ⟨w.heap.size, 2, none⟩ (.slice (some ⟨w1.heap.size, 0, none⟩) t.n.length t.n.length)) ((HCA.out.mono (fun k _ e => .inl e)).trans (hsc2.mono (fun k _ e => .inr e)))
      have z10 := y4 0
      have z11 := y4 1
      have z12 := y4 2
      have z13 := y4 3
      obtain ⟨s0, s1, s2, s3, hsc, -⟩ := store4 (.slice ra rn rc) (.slice ca cn cc) (.slice (some ⟨w1.heap.size, 0, none⟩) t.n.length t.n.length) (.slice ea en ec) y0 y1 y2 y3
      have HSF := Lib.hid (show _ ∧ _ ∧ _ ∧ _ from ⟨s0, s1, s2, s3⟩)
      have HFF := Lib.hid (show _ ∧ _ from ⟨(HLI.out.chgB hsc2 (fun g hg e => by have e : g = w.heap.size := e; have := HS12.out; have := HSA.out; omega)).chgB hsc (fun g hg e => by have e : g = w.heap.size + 1 := e; have := HS12.out; have := HSA.out; omega), (((HC0.out.any (S := fun k => w.heap.size ≤ k)).trans (HCA.out.mono (fun k _ e => by have := HSA.out; omega))).trans ((hsc2.mono (fun k _ e => by omega)).trans (hsc.mono (fun k _ e => by omega)))).fresh⟩)
      clear hsc s0 s1 s2 s3 y4 q4 HLI
      go_wp2
      obtain ⟨s0, s1, s2, s3⟩ := HSF.out
      exact bodyPost_ret (v := .agg #[.slice ra rn rc, .slice ca cn cc, .slice (some ⟨w1.heap.size, 0, none⟩) t.n.length t.n.length, .slice ea en ec]) (by simp [results, Try.results27, go_sem, s0, s1, s2, s3]) rfl ⟨w1.heap.size, rfl, by have := HS12.out; have := HSA.out; omega, HFF.out.1, HFF.out.2⟩
end Go.Proofs.Ytodohgckncnipaa
/- A map keyed by two ints, read as a function of the two: looked up, written, cleared. -/
namespace Go.Proofs.Ytodohgckncnipaa
open Go.RowKit Go.Maps

/-- In the range of an int. -/
abbrev W64 (x : Int) : Prop := -9223372036854775808 ≤ x ∧ x ≤ 9223372036854775807
theorem W64.wf {x : Int} (h : W64 x) : (Lit.int .i64 x).wf = true := WalkArith.wf_i64 h

theorem spotRow : (89 : TypeId) < Try.prog.types.size := of_decide_eq_true (by kernel_rfl)
theorem spotWide : (match Try.prog.underlying 89 with | some (.array _ _) | some (.struct _) => true | _ => false) = true := by kernel_rfl
theorem spotLaw : Keyed Try.prog 89 := Keyed.of_law (deep_law_laid laidOut (m := 2) (by omega) spotRow (by kernel_rfl) spotWide)
def spotKey (x y : Int) : Value := .agg #[.int .i64 x, .int .i64 y]
def spotLit (x y : Int) : Lit := .string (keyBytes [.int .i64 x, .int .i64 y])
theorem spotKeyType : Try.prog.keyType 89 = true := by kernel_rfl
theorem spotCells : Try.prog.cellsOf 89 = 2 := by kernel_rfl
theorem intCells : Try.prog.cellsOf 3 = 1 := by kernel_rfl
theorem typesSize : ∃ n : Nat, Try.prog.types.size = n + 1 := Nat.exists_eq_succ_of_ne_zero (Nat.pos_iff_ne_zero.1 (Nat.lt_of_le_of_lt (Nat.zero_le _) spotRow))
theorem keyLits_int (d : Nat) {x : Int} (hx : W64 x) : Try.prog.keyLits (d + 1) 3 [.int .i64 x] = some [.int .i64 x] := by
  simp [Program.keyLits, Try.underlying3, hx.wf]
theorem keyLits_spot (d : Nat) {x y : Int} (hx : W64 x) (hy : W64 y) : Try.prog.keyLits (d + 2) 89 [.int .i64 x, .int .i64 y] = some [.int .i64 x, .int .i64 y] := by
  unfold Program.keyLits
  simp [spotCells, Try.underlying89, keyLits_int d hx, keyLits_int d hy, intCells]
theorem keyOf_spot {x y : Int} (hx : W64 x) (hy : W64 y) : keyOf Try.prog 89 (spotKey x y) = some (spotLit x y) := by
  obtain ⟨n, hn⟩ := typesSize
  have h := keyLits_spot n hx hy
  generalize hm : Try.prog.types.size = m at hn
  have hf : (Value.agg #[.int .i64 x, .int .i64 y]).formed Try.prog 89 = true := by simp [Value.formed, Try.underlying89, spotCells]
  unfold keyOf spotKey spotLit
  rw [Try.underlying89]
  simp only [spotKeyType, hf, hm, hn, Bool.and_self, if_true, Value.cells]
  rw [h]
  rfl
theorem spot_inj {x y x' y' : Int} (hx : W64 x) (hy : W64 y) (hx' : W64 x') (hy' : W64 y') (h : spotLit x y = spotLit x' y') : x = x' ∧ y = y' := by
  have := spotLaw.inj (keyOf_spot hx hy) (h ▸ keyOf_spot hx' hy')
  simpa [spotKey] using this
theorem zeroInt (w : World) : (zeroValue 3).run Try.prog w = .ok (.int .i64 0) w := by kernel_rfl

/-- Block b is a map that reads as f. -/
def MapIs (w : World) (b : Nat) (f : Int → Int → Option Int) (n : Nat) : Prop :=
  ∃ D : DataW Unit, w.ownsMap Try.prog 89 (plainElem Try.prog 3) b n D ∧
    ∀ x y, W64 x → W64 y → Maps.has D (spotLit x y) = (f x y).isSome ∧ D.atKey (spotLit x y) (.lit (.int .i64 0)) = .lit (.int .i64 ((f x y).getD 0))

theorem MapIs.chg {S : Nat → Prop} {w w' : World} {b n : Nat} {f : Int → Int → Option Int} (h : MapIs w b f n) (hg : Chg S w w') (hs : ¬ S b) : MapIs w' b f n := by
  obtain ⟨D, h1, h2⟩ := h
  exact ⟨D, ownsMap_chg h1 hg hs, h2⟩
theorem MapIs.lt {w : World} {b n : Nat} {f : Int → Int → Option Int} (h : MapIs w b f n) : b < w.heap.size := by
  obtain ⟨D, h1, h2⟩ := h
  exact h1.lt
theorem MapIs.mono {w : World} {b n m : Nat} {f : Int → Int → Option Int} (h : MapIs w b f n) (hm : n ≤ m) : MapIs w b f m := by
  obtain ⟨D, h1, h2⟩ := h
  exact ⟨D, h1.mono hm, h2⟩
theorem MapIs.made (w : World) : MapIs (w.alloc (.map #[] 0)) w.heap.size (fun _ _ => none) 0 :=
  ⟨.map [], World.ownsMap_made _ _ _ _, fun _ _ _ _ => ⟨rfl, rfl⟩⟩

set_option maxRecDepth 100000 in
/-- What is looked up. -/
theorem MapIs.look {w : World} {b n : Nat} {f : Int → Int → Option Int} (h : MapIs w b f n) {x y : Int} (hx : W64 x) (hy : W64 y) :
    (Instr.lookup 87 (.map (some b)) (.agg #[.int .i64 x, .int .i64 y]) true).run Try.prog w = .ok (.tuple #[.int .i64 ((f x y).getD 0), .bool (f x y).isSome]) w := by
  obtain ⟨D, h1, h2⟩ := h
  obtain ⟨v, ps, hrun, hv⟩ := h1.look_ok spotLaw Try.underlying87 (zeroInt w) (plainElem_int Try.underlying3 (by decide)) (keyOf_spot hx hy)
  obtain ⟨c, rfl, hc, _⟩ := plainElem_int_inv Try.underlying3 hv
  simp only [Prod.mk.injEq] at hc
  obtain ⟨e1, e2⟩ := h2 x y hx hy
  rw [e2] at hc
  have : c = (f x y).getD 0 := by
    have := hc.1
    injection this with this
    injection this with _ this
    exact this.symm
  rw [e1, this] at hrun
  exact hrun

set_option maxRecDepth 100000 in
/-- What is written. -/
theorem MapIs.store {w : World} {b n : Nat} {f : Int → Int → Option Int} (h : MapIs w b f n) (hn : n < maxLen) {x y z : Int} (hx : W64 x) (hy : W64 y) (hz : W64 z) :
    ∃ w', (Instr.mapUpdate 87 (.map (some b)) (.agg #[.int .i64 x, .int .i64 y]) (.int .i64 z)).run Try.prog w = .ok () w' ∧
      MapIs w' b (fun i j => if i = x ∧ j = y then some z else f i j) (n + 1) ∧ Chg (· = b) w w' := by
  obtain ⟨D, h1, h2⟩ := h
  obtain ⟨w', hrun, h3, h4⟩ := h1.update spotLaw Try.underlying87 hn (keyOf_spot hx hy) (plainElem_int Try.underlying3 hz.wf)
  refine ⟨w', hrun, ⟨_, h3, fun i j hi hj => ?_⟩, (Chg.refl _ _).grown h4 (fun k hk => .inr (by simpa using hk.symm))⟩
  obtain ⟨e1, e2⟩ := h2 i j hi hj
  by_cases hij : i = x ∧ j = y
  · obtain ⟨rfl, rfl⟩ := hij
    rw [has_put_same h1.isMap (by trivial), atKey_put_same h1.isMap (by trivial)]
    simp
  · have hne : spotLit i j ≠ spotLit x y := fun e => hij (spot_inj hi hj hx hy e)
    rw [has_put_other hne, atKey_put_other hne, e1, e2]
    simp [hij]

set_option maxRecDepth 100000 in
/-- All let go. -/
theorem MapIs.clear {w : World} {b n : Nat} {f : Int → Int → Option Int} (h : MapIs w b f n) (ty : TypeId) :
    ∃ w', (Builtin.clear_ #[87] ty #[.map (some b)]).run Try.prog w = .ok (.tuple #[]) w' ∧ MapIs w' b (fun _ _ => none) 0 ∧ Chg (· = b) w w' := by
  obtain ⟨D, ⟨es, clock, hb, F, hs, hD⟩, h2⟩ := h
  have hlt : b < w.heap.size := (Array.getElem?_eq_some_iff.1 hb).1
  refine ⟨ChangeMaps.setBlock w b (.map #[] clock), ?_, ⟨.map [], ⟨#[], clock, ChangeMaps.heap_setBlock_same hb _, ⟨by simp, MapKept.stamped_empty clock, by simp⟩, by simp, rfl⟩, fun _ _ _ _ => ⟨rfl, rfl⟩⟩, ?_⟩
  · simp [Builtin.clear_, run_underlying Try.underlying87, MapKept.run_getObj_map hb, MapKept.run_setObj_map _ hb, Result.andThen, ChangeMaps.setBlock]
  · exact ⟨rfl, rfl, rfl, by simp [ChangeMaps.setBlock], fun k _ hs => ChangeMaps.heap_setBlock_other hb _ (fun e => hs e)⟩
end Go.Proofs.Ytodohgckncnipaa
/- A map that numbers marks as they come: which are there, which number each has, how many. -/
namespace Go.Proofs.Ytodohgckncnipaa
open Go.RowKit Go.Maps

def isMk (m : Int × Int) (x : Int × Int) : Bool := decide (x = m)
/-- Block b is a map that tells each mark of L its place there. -/
def MapK (w : World) (b : Nat) (L : List (Int × Int)) : Prop :=
  ∃ D : DataW Unit, w.ownsMap Try.prog 89 (plainElem Try.prog 3) b L.length D ∧ Maps.size D = L.length ∧
    ∀ x y, W64 x → W64 y → Maps.has D (spotLit x y) = L.any (isMk (x, y)) ∧ D.atKey (spotLit x y) (.lit (.int .i64 0)) = .lit (.int .i64 (max 0 (idxV (isMk (x, y)) L)))
theorem MapK.chg {S : Nat → Prop} {w w' : World} {b : Nat} {L : List (Int × Int)} (h : MapK w b L) (hg : Chg S w w') (hs : ¬ S b) : MapK w' b L := by
  obtain ⟨D, h1, h2⟩ := h
  exact ⟨D, ownsMap_chg h1 hg hs, h2⟩
theorem MapK.lt {w : World} {b : Nat} {L : List (Int × Int)} (h : MapK w b L) : b < w.heap.size := by
  obtain ⟨D, h1, h2⟩ := h
  exact h1.lt
theorem MapK.made (w : World) : MapK (w.alloc (.map #[] 0)) w.heap.size [] :=
  ⟨.map [], World.ownsMap_made _ _ _ _, rfl, fun _ _ _ _ => ⟨rfl, rfl⟩⟩
set_option maxRecDepth 100000 in
theorem MapK.len {w : World} {b : Nat} {L : List (Int × Int)} (h : MapK w b L) (ty : TypeId) : (Builtin.len_ #[87] ty #[.map (some b)]).run Try.prog w = .ok (.int .i64 L.length) w := by
  obtain ⟨D, h1, h2, h3⟩ := h
  have := h1.len Try.underlying87 ty
  rw [h2] at this
  exact this
set_option maxRecDepth 100000 in
theorem MapK.look {w : World} {b : Nat} {L : List (Int × Int)} (h : MapK w b L) {x y : Int} (hx : W64 x) (hy : W64 y) :
    (Instr.lookup 87 (.map (some b)) (.agg #[.int .i64 x, .int .i64 y]) true).run Try.prog w = .ok (.tuple #[.int .i64 (max 0 (idxV (isMk (x, y)) L)), .bool (L.any (isMk (x, y)))]) w := by
  obtain ⟨D, h1, h2, h3⟩ := h
  obtain ⟨v, ps, hrun, hv⟩ := h1.look_ok spotLaw Try.underlying87 (zeroInt w) (plainElem_int Try.underlying3 (by decide)) (keyOf_spot hx hy)
  obtain ⟨c, rfl, hc, _⟩ := plainElem_int_inv Try.underlying3 hv
  simp only [Prod.mk.injEq] at hc
  obtain ⟨e1, e2⟩ := h3 x y hx hy
  rw [e2] at hc
  have : c = max 0 (idxV (isMk (x, y)) L) := by
    have := hc.1
    injection this with this
    injection this with _ this
    exact this.symm
  rw [e1, this] at hrun
  exact hrun
set_option maxRecDepth 100000 in
theorem MapK.look1 {w : World} {b : Nat} {L : List (Int × Int)} (h : MapK w b L) {x y : Int} (hx : W64 x) (hy : W64 y) :
    (Instr.lookup 87 (.map (some b)) (.agg #[.int .i64 x, .int .i64 y]) false).run Try.prog w = .ok (.int .i64 (max 0 (idxV (isMk (x, y)) L))) w := by
  obtain ⟨D, h1, h2, h3⟩ := h
  obtain ⟨v, ps, hrun, hv⟩ := h1.lookup spotLaw Try.underlying87 (zeroInt w) (plainElem_int Try.underlying3 (by decide)) (keyOf_spot hx hy)
  obtain ⟨c, rfl, hc, _⟩ := plainElem_int_inv Try.underlying3 hv
  simp only [Prod.mk.injEq] at hc
  obtain ⟨e1, e2⟩ := h3 x y hx hy
  rw [e2] at hc
  have : c = max 0 (idxV (isMk (x, y)) L) := by
    have := hc.1
    injection this with this
    injection this with _ this
    exact this.symm
  rw [this] at hrun
  exact hrun
theorem idxMk_app {L : List (Int × Int)} {m x : Int × Int} (hm : L.any (isMk m) = false) : max 0 (idxV (isMk x) (L ++ [m])) = if x = m then (L.length : Int) else max 0 (idxV (isMk x) L) := by
  rw [List.any_eq_false] at hm
  by_cases e : x = m
  · subst e
    rw [if_pos rfl, idxV_found (p := isMk x) (L := L ++ [x]) (k := L.length) (x := x) (by simp) (by simp [isMk]) (fun j y hj hy => by
      rw [List.getElem?_append_left hj] at hy
      simpa using hm y (List.mem_of_getElem? hy))]
    omega
  · rw [if_neg e]
    rcases idx_cases (isMk x) L with ⟨k, y, h1, h2, h3, -⟩ | ⟨h3, h4, -⟩
    · have hk := (List.getElem?_eq_some_iff.1 h1).1
      have hfi : L.findIdx (isMk x) = k := by unfold idxV at h3; split at h3 <;> omega
      rw [h3, idxV_found (p := isMk x) (L := L ++ [m]) (k := k) (x := y) (by rw [List.getElem?_append_left hk]; exact h1) h2 (fun j z hj hz => by
        rw [List.getElem?_append_left (by omega)] at hz
        have hlt : j < L.findIdx (isMk x) := by omega
        have := List.not_of_lt_findIdx hlt
        have ez : L[j]'(by omega) = z := by
          rw [List.getElem?_eq_getElem (by omega)] at hz
          exact Option.some.inj hz
        rw [ez] at this
        simpa using this)]
    · rw [List.find?_eq_none] at h4
      rw [h3, idxV_none (p := isMk x) (L := L ++ [m]) (fun j z hj hz => by
        by_cases hjl : j < L.length
        · rw [List.getElem?_append_left hjl] at hz
          simpa using h4 z (List.mem_of_getElem? hz)
        · have : j = L.length := by simp at hj; omega
          subst this
          rw [List.getElem?_append_right (Nat.le_refl _), Nat.sub_self] at hz
          simp at hz
          subst hz
          simp [isMk]
          exact fun h => e h.symm)]
set_option maxRecDepth 100000 in
/-- A mark more. -/
theorem MapK.add {w : World} {b : Nat} {L : List (Int × Int)} (h : MapK w b L) (hn : L.length < 1000000000000) {x y : Int} (hx : W64 x) (hy : W64 y) (hno : L.any (isMk (x, y)) = false) :
    ∃ w', (Instr.mapUpdate 87 (.map (some b)) (.agg #[.int .i64 x, .int .i64 y]) (.int .i64 L.length)).run Try.prog w = .ok () w' ∧ MapK w' b (L ++ [(x, y)]) ∧ Chg (· = b) w w' := by
  obtain ⟨D, h1, h2, h3⟩ := h
  have hz : W64 (L.length : Int) := by constructor <;> omega
  obtain ⟨w', hrun, h4, h5⟩ := h1.update spotLaw Try.underlying87 (by unfold maxLen; omega) (keyOf_spot hx hy) (plainElem_int Try.underlying3 hz.wf)
  refine ⟨w', hrun, ⟨_, by rw [List.length_append]; exact h4, ?_, fun i j hi hj => ?_⟩, (Chg.refl _ _).grown h5 (fun k hk => .inr (by simpa using hk.symm))⟩
  · rw [size_put (h1.tidy spotLaw), (h3 x y hx hy).1, hno, if_neg (by decide), h2]
    simp
  · obtain ⟨e1, e2⟩ := h3 i j hi hj
    rw [List.any_append, idxMk_app hno]
    by_cases hij : (i, j) = (x, y)
    · injection hij with ha hb
      subst ha hb
      rw [has_put_same h1.isMap (by trivial), atKey_put_same h1.isMap (by trivial), if_pos rfl]
      simp [isMk]
    · have hne : spotLit i j ≠ spotLit x y := fun e => hij (by obtain ⟨ha, hb⟩ := spot_inj hi hj hx hy e; rw [ha, hb])
      rw [has_put_other hne, atKey_put_other hne, e1, e2, if_neg hij]
      have : isMk (i, j) (x, y) = false := by simp only [isMk, decide_eq_false_iff_not]; exact fun e => hij e.symm
      simp [this]
end Go.Proofs.Ytodohgckncnipaa
/- Numbers given to marks as they come; how many; refined till nothing more is told apart, plainly. -/
namespace Go.Proofs.Ytodohgckncnipaa
open Go.RowKit

/-- The marks, each once, as they come. -/
def namedL (m : Nat → Int × Int) (n : Nat) : List (Int × Int) := (List.range n).foldl (fun L s => if L.any (isMk (m s)) = true then L else L ++ [m s]) []
theorem namedL_zero (m : Nat → Int × Int) : namedL m 0 = [] := rfl
theorem namedL_step (m : Nat → Int × Int) (n : Nat) : namedL m (n + 1) = if (namedL m n).any (isMk (m n)) = true then namedL m n else namedL m n ++ [m n] := by
  unfold namedL
  rw [List.range_succ, List.foldl_append]
  rfl
theorem any_isMk {L : List (Int × Int)} {x : Int × Int} : L.any (isMk x) = true ↔ x ∈ L := by
  rw [List.any_eq_true]
  constructor
  · rintro ⟨y, hy, h⟩
    have : y = x := by simpa [isMk] using h
    rw [← this]; exact hy
  · intro h
    exact ⟨x, h, by simp [isMk]⟩
theorem namedL_mem (m : Nat → Int × Int) : ∀ n s, s < n → m s ∈ namedL m n
  | n + 1, s, h => by
    rw [namedL_step]
    by_cases hs : s < n
    · have := namedL_mem m n s hs
      split
      · exact this
      · exact List.mem_append_left _ this
    · obtain rfl : s = n := by omega
      split
      · rename_i h2; exact any_isMk.1 h2
      · simp
theorem namedL_nodup (m : Nat → Int × Int) : ∀ n, (namedL m n).Nodup
  | 0 => List.nodup_nil
  | n + 1 => by
    rw [namedL_step]
    split
    · exact namedL_nodup m n
    · rename_i h
      rw [List.nodup_append]
      refine ⟨namedL_nodup m n, by simp, fun a ha b hb e => ?_⟩
      rw [List.mem_singleton] at hb
      subst e hb
      exact h (any_isMk.2 ha)
/-- Its number. -/
def grpN (m : Nat → Int × Int) (n s : Nat) : Int := max 0 (idxV (isMk (m s)) (namedL m n))
theorem grpN_spec {m : Nat → Int × Int} {n s : Nat} (h : s < n) : ∃ k : Nat, grpN m n s = k ∧ (namedL m n)[k]? = some (m s) := by
  rcases idx_cases (isMk (m s)) (namedL m n) with ⟨k, x, h1, h2, h3, -⟩ | ⟨-, -, h5⟩
  · have : x = m s := by simpa [isMk] using h2
    subst this
    exact ⟨k, by unfold grpN; rw [h3]; omega, h1⟩
  · rw [any_isMk.2 (namedL_mem m n s h)] at h5; cases h5
theorem grpN_eq {m : Nat → Int × Int} {n a b : Nat} (ha : a < n) (hb : b < n) : grpN m n a = grpN m n b ↔ m a = m b := by
  constructor
  · intro h
    obtain ⟨k, h1, h2⟩ := grpN_spec (m := m) ha
    obtain ⟨j, h3, h4⟩ := grpN_spec (m := m) hb
    rw [h1, h3] at h
    have : k = j := by omega
    subst this
    rw [h2] at h4
    exact Option.some.inj h4
  · intro h
    unfold grpN
    rw [h]
/-- How many kinds there are. -/
def kinds {α : Type} [DecidableEq α] (f : Nat → α) (n : Nat) : Nat := (List.range n).countP fun a => (List.range a).all fun b => decide (f b ≠ f a)
theorem kinds_all {α : Type} [DecidableEq α] {f : Nat → α} {a : Nat} : ((List.range a).all fun b => decide (f b ≠ f a)) = true ↔ ∀ b, b < a → f b ≠ f a := by
  simp only [List.all_eq_true, List.mem_range, decide_eq_true_eq]
theorem kinds_le {α : Type} [DecidableEq α] (f : Nat → α) (n : Nat) : kinds f n ≤ n := by
  have := List.countP_le_length (p := fun a => (List.range a).all fun b => decide (f b ≠ f a)) (l := List.range n)
  rwa [List.length_range] at this
theorem kinds_named (m : Nat → Int × Int) : ∀ n, (namedL m n).length = kinds m n
  | 0 => rfl
  | n + 1 => by
    have ih := kinds_named m n
    have hst : kinds m (n + 1) = kinds m n + if ((List.range n).all fun b => decide (m b ≠ m n)) = true then 1 else 0 := by
      unfold kinds
      rw [List.range_succ, List.countP_append, List.countP_cons, List.countP_nil]
      simp
    have hmem : ∀ k x, x ∈ namedL m k → ∃ s, s < k ∧ m s = x := by
      intro k
      induction k with
      | zero => intro x hx; cases hx
      | succ k ih =>
        intro x hx
        rw [namedL_step] at hx
        split at hx
        · obtain ⟨s, h1, h2⟩ := ih x hx; exact ⟨s, by omega, h2⟩
        · rcases List.mem_append.1 hx with hx | hx
          · obtain ⟨s, h1, h2⟩ := ih x hx; exact ⟨s, by omega, h2⟩
          · rw [List.mem_singleton] at hx; exact ⟨k, by omega, hx.symm⟩
    rw [namedL_step, hst]
    by_cases h : (namedL m n).any (isMk (m n)) = true
    · rw [if_pos h, if_neg, ih]
      · rfl
      · rw [kinds_all]
        intro hno
        obtain ⟨s, h1, h2⟩ := hmem n (m n) (any_isMk.1 h)
        exact hno s h1 h2
    · rw [if_neg h, if_pos, List.length_append, ih]
      · rfl
      · rw [kinds_all]
        intro b hb e
        exact h (any_isMk.2 (by rw [← e]; exact namedL_mem m n b hb))
/-- What tells more apart has no fewer kinds; as many: it tells no more. -/
theorem kinds_mono {α β : Type} [DecidableEq α] [DecidableEq β] {f : Nat → α} {g : Nat → β} {n : Nat} (h : ∀ a b, a < n → b < n → g a = g b → f a = f b) : kinds f n ≤ kinds g n := by
  refine List.countP_mono_left (fun a ha hk => ?_)
  have hal := List.mem_range.1 ha
  rw [kinds_all] at hk ⊢
  exact fun b hb e => hk b hb (h b a (by omega) hal e)
theorem least_kind {α : Type} [DecidableEq α] (f : Nat → α) : ∀ a, ∃ m, m ≤ a ∧ f m = f a ∧ ∀ b, b < m → f b ≠ f m := by
  intro a
  induction a using Nat.strongRecOn with
  | _ a ih =>
    by_cases h : ∃ b, b < a ∧ f b = f a
    · obtain ⟨b, hb, hr⟩ := h
      obtain ⟨m, h1, h2, h3⟩ := ih b hb
      exact ⟨m, by omega, h2.trans hr, h3⟩
    · exact ⟨a, Nat.le_refl _, rfl, fun b hb e => h ⟨b, hb, e⟩⟩
theorem kinds_same {α β : Type} [DecidableEq α] [DecidableEq β] {f : Nat → α} {g : Nat → β} {n : Nat} (h : ∀ a b, a < n → b < n → g a = g b → f a = f b) (hk : kinds g n ≤ kinds f n) {a b : Nat} (ha : a < n) (hb : b < n) (he : f a = f b) : g a = g b := by
  refine Classical.byContradiction fun hne => ?_
  have hlt : kinds f n < kinds g n := by
    refine countP_lt (fun x hx hp => ?_) ?_
    · have hxl := List.mem_range.1 hx
      rw [kinds_all] at hp ⊢
      exact fun y hy e => hp y hy (h y x (by omega) hxl e)
    · obtain ⟨m, m1, m2, m3⟩ := least_kind f a
      obtain ⟨x, hx, hfx, hgx⟩ : ∃ x, x < n ∧ f m = f x ∧ g m ≠ g x := by
        by_cases e : g m = g a
        · exact ⟨b, hb, m2.trans he, fun e2 => hne (e.symm.trans e2)⟩
        · exact ⟨a, ha, m2, e⟩
      obtain ⟨m', n1, n2, n3⟩ := least_kind g x
      have hfm : f m' = f m := (h m' x (by omega) hx n2).trans hfx.symm
      have hne2 : m ≠ m' := fun e => hgx (by rw [e]; exact n2)
      have hlt : m < m' := by
        rcases Nat.lt_or_ge m m' with h | h
        · exact h
        · exact absurd hfm (m3 m' (by omega))
      refine ⟨m', List.mem_range.2 (by omega), kinds_all.2 n3, ?_⟩
      cases hr : (List.range m').all fun b => decide (f b ≠ f m') with
      | false => rfl
      | true => exact absurd hfm.symm (kinds_all.1 hr m hlt)
  omega

section
variable {t : TabD}
/-- A state's mark at a column. -/
def markC (t : TabD) (f : Nat → Int) (c : Nat) (s : Nat) : Int × Int := (f s, if goN (bareT t) s c < t.n.length then f (goN (bareT t) s c) else -1)
end
end Go.Proofs.Ytodohgckncnipaa
/- Groups of states that are refined column by column come to what no text tells apart. -/
namespace Go.Proofs.Ytodohgckncnipaa
open Go.RowKit

section
variable {t : TabD}
theorem bare_row {s : Nat} {l : List Int} (h : t.n[s]? = some l) : (bareT t).n[s]? = some (bareL t l) := by unfold bareT; simp [h]
theorem bare_nlen (t : TabD) : (bareT t).n.length = t.n.length := by unfold bareT; simp
/-- Where a bare table goes. -/
theorem bare_go (h : MayS t) (s c : Nat) : goN (bareT t) s c = if eqB t (goN t s c) t.n.length = true then t.n.length else goN t s c := by
  by_cases hs : s < t.n.length
  · have hl : t.n[s]? = some t.n[s] := List.getElem?_eq_getElem hs
    by_cases hc : c < t.n[s].length
    · have hx : t.n[s][c]? = some t.n[s][c] := List.getElem?_eq_getElem hc
      have hbx : (bareL t t.n[s])[c]? = some (bareX t t.n[s][c]) := by unfold bareL; rw [List.getElem?_map, hx]; rfl
      rw [goN_at (bare_row hl) hbx, goN_at hl hx, bare_nlen]
      obtain ⟨b1, b2⟩ := (may_row h hl).2 c _ hx
      by_cases h0 : 0 ≤ t.n[s][c]
      · rw [if_pos h0]
        cases he : eqB t t.n[s][c].toNat t.n.length with
        | true =>
          have e : bareX t t.n[s][c] = -1 := by unfold bareX; rw [if_pos ⟨h0, he⟩]
          rw [e, if_neg (by omega), if_pos rfl]
        | false =>
          have e : bareX t t.n[s][c] = t.n[s][c] := by unfold bareX; rw [if_neg (fun k => by rw [he] at k; cases k.2)]
          rw [e, if_pos h0, if_neg (by decide)]
      · have e : bareX t t.n[s][c] = t.n[s][c] := by unfold bareX; rw [if_neg (fun k => h0 k.1)]
        rw [e, if_neg h0, eqB_refl, if_pos rfl]
    · have e1 : goN t s c = t.n.length := by
        unfold goN
        rw [if_neg]
        rintro ⟨-, h5⟩
        rw [List.getD_eq_getElem?_getD, List.getD_eq_getElem?_getD, hl] at h5
        simp only [Option.getD_some] at h5
        rw [List.getElem?_eq_none (by omega)] at h5
        simp at h5
      have e2 : goN (bareT t) s c = t.n.length := by
        unfold goN
        rw [if_neg, bare_nlen]
        rintro ⟨-, h5⟩
        rw [List.getD_eq_getElem?_getD, List.getD_eq_getElem?_getD, bare_row hl] at h5
        simp only [Option.getD_some] at h5
        rw [List.getElem?_eq_none (by unfold bareL; simp; omega)] at h5
        simp at h5
      rw [e1, e2, eqB_refl, if_pos rfl]
  · have e1 : goN t s c = t.n.length := by unfold goN; rw [if_neg (fun k => hs k.1)]
    have e2 : goN (bareT t) s c = t.n.length := by unfold goN; rw [bare_nlen, if_neg (fun k => hs k.1)]
    rw [e1, e2, eqB_refl, if_pos rfl]
/-- States that no text tells apart are in one group. -/
def SoundG (t : TabD) (f : Nat → Int) : Prop := ∀ a b, a < t.n.length → b < t.n.length → eqB t a b = true → f a = f b
theorem markC_sound (h : MayS t) {f : Nat → Int} (hf : SoundG t f) {c : Nat} (hc : c < colsN t) {a b : Nat} (ha : a < t.n.length) (hb : b < t.n.length) (he : eqB t a b = true) : markC t f c a = markC t f c b := by
  have h1 := eqB_go h (Nat.le_of_lt ha) (Nat.le_of_lt hb) he hc
  have h2 : eqB t (goN t a c) t.n.length = eqB t (goN t b c) t.n.length := eqB_left h1
  unfold markC
  rw [bare_go h, bare_go h, hf a b ha hb he, h2]
  cases hd : eqB t (goN t b c) t.n.length with
  | true => rfl
  | false =>
    simp only [Bool.false_eq_true, if_false]
    rw [hd] at h2
    have live : ∀ d, d ≤ t.n.length → eqB t d t.n.length = false → d < t.n.length := fun d hd hl => by
      rcases Nat.lt_or_ge d t.n.length with k | k
      · exact k
      · rw [show d = t.n.length by omega, eqB_refl] at hl; cases hl
    have l1 := live _ (goN_le h a c) h2
    have l2 := live _ (goN_le h b c) hd
    rw [if_pos l1, if_pos l2, hf _ _ l1 l2 h1]
/-- Where nothing more is told apart: it is all. -/
theorem groups_done (h : MayS t) {f : Nat → Int} (hf : SoundG t f) (h0 : ∀ a b, a < t.n.length → b < t.n.length → f a = f b → t.e.getD a 0 = t.e.getD b 0)
    (hst : ∀ c, c < colsN t → ∀ a b, a < t.n.length → b < t.n.length → f a = f b → (goN (bareT t) a c < t.n.length ↔ goN (bareT t) b c < t.n.length) ∧ (goN (bareT t) a c < t.n.length → f (goN (bareT t) a c) = f (goN (bareT t) b c)))
    {a b : Nat} (ha : a < t.n.length) (hb : b < t.n.length) : f a = f b ↔ eqB t a b = true := by
  refine ⟨fun he => ?_, hf a b ha hb⟩
  -- by texts: what the bare table does is what the table does
  have dead : ∀ d, eqB t d t.n.length = true → d ≤ t.n.length → ∀ c, c < colsN t → eqB t (goN t d c) t.n.length = true := fun d hd hl c hc => by
    have := eqB_go h hl (Nat.le_refl _) hd hc
    rwa [goN_none] at this
  have key : ∀ x y, ((x ≤ t.n.length ∧ y ≤ t.n.length) ∧ ((x < t.n.length ∧ y < t.n.length ∧ f x = f y) ∨ (eqB t x t.n.length = true ∧ eqB t y t.n.length = true))) → endN t x = endN t y := by
    rintro x y ⟨⟨hx, hy⟩, h1 | ⟨h1, h2⟩⟩
    · rw [endN_lt h1.1, endN_lt h1.2.1]
      exact h0 x y h1.1 h1.2.1 h1.2.2
    · rw [eqB_end h1, eqB_end h2]
  refine eqB_max (fun x y => (x ≤ t.n.length ∧ y ≤ t.n.length) ∧ ((x < t.n.length ∧ y < t.n.length ∧ f x = f y) ∨ (eqB t x t.n.length = true ∧ eqB t y t.n.length = true))) key ?_ ⟨⟨Nat.le_of_lt ha, Nat.le_of_lt hb⟩, .inl ⟨ha, hb, he⟩⟩
  rintro x y ⟨⟨hx, hy⟩, h1 | ⟨h1, h2⟩⟩ c hc
  · refine ⟨⟨goN_le h x c, goN_le h y c⟩, ?_⟩
    obtain ⟨k1, k2⟩ := hst c hc x y h1.1 h1.2.1 h1.2.2
    rw [bare_go h, bare_go h] at k1
    rw [bare_go h, bare_go h] at k2
    cases e1 : eqB t (goN t x c) t.n.length with
    | true =>
      rw [e1, if_pos rfl] at k1
      cases e2 : eqB t (goN t y c) t.n.length with
      | true => exact .inr ⟨rfl, rfl⟩
      | false =>
        rw [e2, if_neg (by decide)] at k1
        have : ¬ goN t y c < t.n.length := fun k => absurd (k1.2 k) (by omega)
        have e3 := goN_le h y c
        rw [show goN t y c = t.n.length by omega, eqB_refl] at e2
        cases e2
    | false =>
      rw [e1, if_neg (by decide)] at k1 k2
      have l1 : goN t x c < t.n.length := by
        rcases Nat.lt_or_ge (goN t x c) t.n.length with k | k
        · exact k
        · have := goN_le h x c
          rw [show goN t x c = t.n.length by omega, eqB_refl] at e1
          cases e1
      cases e2 : eqB t (goN t y c) t.n.length with
      | true =>
        rw [e2, if_pos rfl] at k1
        exact absurd (k1.1 l1) (by omega)
      | false =>
        rw [e2, if_neg (by decide)] at k1 k2
        exact .inl ⟨l1, k1.1 l1, k2 l1⟩
  · exact ⟨⟨goN_le h x c, goN_le h y c⟩, .inr ⟨dead x h1 hx c hc, dead y h2 hy c hc⟩⟩
end
end Go.Proofs.Ytodohgckncnipaa
/- The program's numbering of groups: a closure that asks of each state its mark and numbers the marks as they come. -/
namespace Go.Proofs.Ytodohgckncnipaa
open Go.RowKit Go.Maps

/-- A function value that tells the mark of each state, in whatever world comes of this one. -/
def GivesK (f : FuncId) (lb : Array Value) (m : Nat → Int × Int) (n : Nat) (w : World) : Prop := ∀ s : Nat, s < n → ∀ w' : World, Chg (fun k => w.heap.size ≤ k) w w' →
  Calls Try.prog f (#[.int .i64 (s : Int)] ++ lb) w' fun e w'' => e = .returned (.agg #[.int .i64 (m s).1, .int .i64 (m s).2]) ∧ Chg (fun _ => False) w' w''
def AllW (m : Nat → Int × Int) (n : Nat) : Prop := ∀ s, s < n → W64 (m s).1 ∧ W64 (m s).2
theorem namedL_le (m : Nat → Int × Int) (n : Nat) : (namedL m n).length ≤ n := by rw [kinds_named]; exact kinds_le m n
theorem namedL_pre (m : Nat → Int × Int) {k n s : Nat} (hs : s < k) (hk : k ≤ n) : max 0 (idxV (isMk (m s)) (namedL m k)) = grpN m n s := by
  have go : ∀ d, max 0 (idxV (isMk (m s)) (namedL m (k + d))) = max 0 (idxV (isMk (m s)) (namedL m k)) := by
    intro d
    induction d with
    | zero => rfl
    | succ d ih =>
      rw [show k + (d + 1) = (k + d) + 1 by omega, namedL_step]
      cases h : (namedL m (k + d)).any (isMk (m (k + d))) with
      | true => rw [if_pos rfl]; exact ih
      | false =>
        rw [if_neg (by decide), idxMk_app h, if_neg, ih]
        intro e
        rw [← e, any_isMk.2 (namedL_mem m (k + d) s (by omega))] at h
        cases h
  have := go (n - k)
  rw [show k + (n - k) = n by omega] at this
  exact this.symm
theorem grpN_byte {m : Nat → Int × Int} {n s : Nat} (h : s < n) (hn : n ≤ 1000000000) : I.Byte (grpN m n s) := by
  obtain ⟨k, h1, h2⟩ := grpN_spec (m := m) h
  have := (List.getElem?_eq_some_iff.1 h2).1
  have := namedL_le m n
  rw [h1]
  constructor <;> omega

set_option maxRecDepth 100000 in
set_option maxHeartbeats 4000000 in
theorem number_any (f : FuncId) (lb : Array Value) (m : Nat → Int × Int) (n c : Nat) (a : Option Addr) (k0 : Int) (bo bm : Nat) (w : World) (eg : ∀ args w, (callFunc f args).run Try.prog w = .ok (.enter f args) w)
    (hg : GivesK f lb m n w) (hw : AllW m n) (ho : w.cell? ⟨bo, 0, none⟩ = some (.slice a n c) ∧ w.frozen? ⟨bo, 0, none⟩ = false) (hk : w.cell? ⟨bm, 0, none⟩ = some (.int .i64 k0) ∧ w.frozen? ⟨bm, 0, none⟩ = false) (hne : bo ≠ bm) (hn : n ≤ 1000000000) :
    Calls Try.prog 61 #[.func (.func f) #[] lb, .pointer (some ⟨bo, 0, none⟩), .pointer (some ⟨bm, 0, none⟩)] w fun e w' => ∃ g, e = .returned (.tuple #[]) ∧ w.heap.size ≤ g ∧ NumAt w' g n (grpN m n) ∧ w'.cell? ⟨bo, 0, none⟩ = some (.slice (some ⟨g, 0, none⟩) n n) ∧ w'.cell? ⟨bm, 0, none⟩ = some (.int .i64 (namedL m n).length) ∧ (w'.frozen? ⟨bo, 0, none⟩ = false ∧ w'.frozen? ⟨bm, 0, none⟩ = false) ∧ Chg (fun k => k = bo ∨ k = bm) w w' := by
  have hmm := @run_makeMap Try.prog
  have HG := Lib.hid hg
  have HW := Lib.hid hw
  have HO := Lib.hid ho
  have HK := Lib.hid hk
  have HBB := Lib.hid (show bo < w.heap.size ∧ bm < w.heap.size from ⟨World.block_lt_of_cell? _ _ ho.1, World.block_lt_of_cell? _ _ hk.1⟩)
  clear hg hw
  obtain ⟨wa, hwa⟩ : ∃ x, x = w.alloc (.map #[] 0) := ⟨_, rfl⟩
  have HCA : Hid (Chg (fun _ => False) w wa) := Lib.hid (by rw [hwa]; exact (Chg.refl _ _).alloc _)
  have HMA : Hid (MapK wa w.heap.size []) := Lib.hid (by rw [hwa]; exact MapK.made w)
  have HWA := Lib.hid hwa
  have o0 := HCA.out.cellS ho.1 (fun h => h)
  clear hwa ho hk
  go_enter Try.func61, Try.ntmps61
  go_upto_region 1 with (fail)
  rw [← HWA.out]
  go_wp2_with fail
  go_loopw [14] (fun q wr => ∃ k : Nat, k ≤ n ∧ q = .int .i64 k ∧ MapK wr w.heap.size (namedL m k) ∧ Chg (fun k => w.heap.size ≤ k) w wr) (fun q _ => n - (intOf q).toNat)
  case atStart => exact ⟨0, Nat.zero_le _, rfl, HMA.out, HCA.out.any⟩
  case round =>
    clear o0 HMA
    obtain ⟨k, hk, rfl, hm, hc⟩ := hrel
    have HM := Lib.hid hm
    have HC := Lib.hid hc
    clear hm hc
    by_cases hkl : k < n
    · have b1 : decide ((k : Int) < (n : Int)) = true := by simp; omega
      have o0 := HC.out.cellS HO.out.1 (fun (e : w.heap.size ≤ bo) => by have := HBB.out; omega)
      go_wp2_with fail
      refine (HG.out k hkl wr HC.out).mono ?_
      rintro e w1 ⟨rfl, hc1⟩
      obtain ⟨x, hx⟩ : ∃ X, (m k).1 = X := ⟨_, rfl⟩
      obtain ⟨y, hy⟩ : ∃ X, (m k).2 = X := ⟨_, rfl⟩
      have HXY : Hid (m k = (x, y)) := Lib.hid (by rw [← hx, ← hy])
      have HXW : Hid (W64 x ∧ W64 y) := Lib.hid (by have := HW.out k hkl; rw [hx, hy] at this; exact this)
      rw [hx, hy]
      clear hx hy
      have HC1 := Lib.hid hc1
      clear hc1 o0
      go_upto_region 5 with (fail)
      obtain ⟨w2, hw2⟩ : ∃ W, W = w1.alloc (.cells #[.int .i64 x, .int .i64 y] 89) := ⟨_, rfl⟩
      have HC2 : Hid (Chg (fun _ => False) w1 w2) := Lib.hid (by rw [hw2]; exact (Chg.refl _ _).alloc _)
      have n0 : w2.cell? ⟨w1.heap.size, 0, none⟩ = some (.int .i64 x) := by rw [hw2, World.cell?_alloc_new]; rfl
      have n1 : w2.cell? ⟨w1.heap.size, 1, none⟩ = some (.int .i64 y) := by rw [hw2, World.cell?_alloc_new]; rfl
      rw [← hw2]
      have HCX := Lib.hid ((HC1.out.trans HC2.out))
      have HM2 := Lib.hid (HM.out.chg HCX.out (fun h => h))
      have HCF := Lib.hid (HC.out.trans HCX.out.any)
      clear hw2 HC1 HC2 HM
      have hlook := HM2.out.look HXW.out.1 HXW.out.2
      cases hany : (namedL m k).any (isMk (x, y)) with
      | true =>
        rw [hany] at hlook
        have HN : Hid (namedL m (k + 1) = namedL m k) := Lib.hid (by rw [namedL_step, HXY.out, if_pos hany])
        have HM3 : Hid (MapK w2 w.heap.size (namedL m (k + 1))) := Lib.hid (by rw [HN.out]; exact HM2.out)
        go_wp2
        go_roundw
        case rel => exact ⟨k + 1, by omega, by go_num, HM3.out, HCF.out⟩
        case measure => simp [intOf]; omega
      | false =>
        rw [hany] at hlook
        have hlen := HM2.out.len 3
        have hnl : (namedL m k).length < 1000000000000 := by have := namedL_le m k; omega
        obtain ⟨w3, hupd, hm3, hc3⟩ := HM2.out.add hnl HXW.out.1 HXW.out.2 hany
        have HM3 : Hid (MapK w3 w.heap.size (namedL m (k + 1))) := Lib.hid (by rw [namedL_step, HXY.out, if_neg (by rw [hany]; decide)]; exact hm3)
        have HCG : Hid (Chg (fun k => w.heap.size ≤ k) w w3) := Lib.hid (HCF.out.trans (hc3.mono (fun k _ e => by omega)))
        clear hm3 hc3 hnl hany
        go_wp2
        go_roundw
        case rel => exact ⟨k + 1, by omega, by go_num, HM3.out, HCG.out⟩
        case measure => simp [intOf]; omega
    · obtain rfl : k = n := by omega
      have b1 : decide ((k : Int) < (k : Int)) = false := by simp
      have o0 := HC.out.cellS HO.out.1 (fun (e : w.heap.size ≤ bo) => by have := HBB.out; omega)
      go_upto_region 10 with (at_make; refine intE.wpList_make rfl _ _ _ rfl rfl _ _ _ _ k k rfl rfl rfl (by omega) (by omega) (by omega) ?_; intro w2 HR2 HC2)
      have HN2 : Hid (NumAt w2 wr.heap.size k (fun _ => 0)) := Lib.hid (by
        unfold NumAt
        rw [show (List.range k).map (fun _ => (0 : Int)) = List.replicate k 0 by rw [List.map_const', List.length_range]]
        exact HR2.out)
      have HM2 := Lib.hid (HM.out.chg HC2.out (fun h => h))
      have HCF := Lib.hid (HC.out.trans HC2.out.any)
      have HSZ : Hid (w.heap.size < wr.heap.size) := Lib.hid HM.out.lt
      obtain ⟨gN, hgN⟩ : ∃ X, wr.heap.size = X := ⟨_, rfl⟩
      rw [hgN] at HN2 HSZ ⊢
      clear HM HC HR2 HC2 hgN o0
      have o0 := HCF.out.cellS HO.out.1 (fun (e : w.heap.size ≤ bo) => by have := HBB.out; omega)
      go_wp2
      go_loopw [38] (fun q wr => ∃ (s : Nat) (h : Nat → Int), s ≤ k ∧ q = .int .i64 s ∧ NumAt wr gN k h ∧ (∀ j, j < s → h j = grpN m k j) ∧ MapK wr w.heap.size (namedL m k) ∧ Chg (fun k => w.heap.size ≤ k) w wr) (fun q _ => k - (intOf q).toNat)
      case atStart => exact ⟨0, _, Nat.zero_le _, rfl, HN2.out, fun j h => absurd h (Nat.not_lt_zero _), HM2.out, HCF.out⟩
      case round =>
        clear o0 HM2 HN2 HCF
        obtain ⟨s, h, hs, rfl, hn, hh, hm, hc⟩ := hrel
        have HN := Lib.hid hn
        have HH := Lib.hid hh
        have HM := Lib.hid hm
        have HC := Lib.hid hc
        clear hn hh hm hc
        by_cases hsk : s < k
        · have b2 : decide ((s : Int) < (k : Int)) = true := by simp; omega
          have b3 : s < k := hsk
          go_wp2_with fail
          refine (HG.out s hsk wr HC.out).mono ?_
          rintro e w1 ⟨rfl, hc1⟩
          obtain ⟨x, hx⟩ : ∃ X, (m s).1 = X := ⟨_, rfl⟩
          obtain ⟨y, hy⟩ : ∃ X, (m s).2 = X := ⟨_, rfl⟩
          have HXW : Hid (W64 x ∧ W64 y) := Lib.hid (by have := HW.out s hsk; rw [hx, hy] at this; exact this)
          have hgr : max 0 (idxV (isMk (x, y)) (namedL m k)) = grpN m k s := by unfold grpN; rw [← hx, ← hy]
          rw [hx, hy]
          clear hx hy
          have hlook := (HM.out.chg hc1 (fun h => h)).look1 HXW.out.1 HXW.out.2
          rw [hgr] at hlook
          have HM1 := Lib.hid (HM.out.chg hc1 (fun h => h))
          have HN1 := Lib.hid (HN.out.same hc1)
          have HC1 := Lib.hid (HC.out.trans hc1.any)
          obtain ⟨c0, z0, -⟩ := HN1.out.get hsk
          have HS1 := Lib.hid (HN1.out.set (j := s) hsk (grpN_byte (m := m) (n := k) hsk (by omega)))
          have HCS := Lib.hid (HC1.out.trans ((setCellChg w1 gN s (.int .i64 (grpN m k s))).mono (T := fun k => w.heap.size ≤ k) (fun j _ e => by have := HSZ.out; omega)))
          have HMS := Lib.hid (HM1.out.chg (setCellChg w1 gN s (.int .i64 (grpN m k s))) (fun e => by have := HSZ.out; omega))
          have HH1 : Hid (∀ j, j < s + 1 → (if j = s then grpN m k s else h j) = grpN m k j) := Lib.hid (fun j hj => by
            by_cases e : j = s
            · subst e; rw [if_pos rfl]
            · rw [if_neg e]; exact HH.out j (by omega))
          clear hc1 hgr
          go_wp2
          go_roundw
          case rel => exact ⟨s + 1, _, by omega, by go_num, HS1.out, HH1.out, HMS.out, HCS.out⟩
          case measure => simp [intOf]; omega
        · obtain rfl : s = k := by omega
          have b2 : decide ((s : Int) < (s : Int)) = false := by simp
          have hlen := HM.out.len 3
          have q0 := HC.out.cellS HO.out.1 (fun (e : w.heap.size ≤ bo) => by have := HBB.out; omega)
          have q1 := HC.out.cellS HK.out.1 (fun (e : w.heap.size ≤ bm) => by have := HBB.out; omega)
          have z0 : wr.frozen? ⟨bo, 0, none⟩ = false := (HC.out.frozen (p := ⟨bo, 0, none⟩) HBB.out.1 (fun (e : w.heap.size ≤ bo) => by have := HBB.out; omega)).trans HO.out.2
          have z1 : wr.frozen? ⟨bm, 0, none⟩ = false := (HC.out.frozen (p := ⟨bm, 0, none⟩) HBB.out.2 (fun (e : w.heap.size ≤ bm) => by have := HBB.out; omega)).trans HK.out.2
          have hs1 := setCellChg wr bo 0 (.slice (some ⟨gN, 0, none⟩) s s)
          have hlt1 := World.block_lt_of_cell? _ _ q0
          have hlt2 := World.block_lt_of_cell? _ _ q1
          have z2 : (wr.setCell ⟨bo, 0, none⟩ (.slice (some ⟨gN, 0, none⟩) s s)).frozen? ⟨bm, 0, none⟩ = false := (hs1.frozen (p := ⟨bm, 0, none⟩) hlt2 (fun e => hne e.symm)).trans z1
          have q2 := hs1.cellS q1 (fun e => hne e.symm)
          have hs2 := setCellChg (wr.setCell ⟨bo, 0, none⟩ (.slice (some ⟨gN, 0, none⟩) s s)) bm 0 (.int .i64 ((namedL m s).length : Int))
          have HFIN : Hid (NumAt ((wr.setCell ⟨bo, 0, none⟩ (.slice (some ⟨gN, 0, none⟩) s s)).setCell ⟨bm, 0, none⟩ (.int .i64 ((namedL m s).length : Int))) gN s (grpN m s) ∧ ((wr.setCell ⟨bo, 0, none⟩ (.slice (some ⟨gN, 0, none⟩) s s)).setCell ⟨bm, 0, none⟩ (.int .i64 ((namedL m s).length : Int))).cell? ⟨bo, 0, none⟩ = some (.slice (some ⟨gN, 0, none⟩) s s) ∧ ((wr.setCell ⟨bo, 0, none⟩ (.slice (some ⟨gN, 0, none⟩) s s)).setCell ⟨bm, 0, none⟩ (.int .i64 ((namedL m s).length : Int))).cell? ⟨bm, 0, none⟩ = some (.int .i64 ((namedL m s).length : Int)) ∧ (((wr.setCell ⟨bo, 0, none⟩ (.slice (some ⟨gN, 0, none⟩) s s)).setCell ⟨bm, 0, none⟩ (.int .i64 ((namedL m s).length : Int))).frozen? ⟨bo, 0, none⟩ = false ∧ ((wr.setCell ⟨bo, 0, none⟩ (.slice (some ⟨gN, 0, none⟩) s s)).setCell ⟨bm, 0, none⟩ (.int .i64 ((namedL m s).length : Int))).frozen? ⟨bm, 0, none⟩ = false) ∧ Chg (fun k => k = bo ∨ k = bm) w ((wr.setCell ⟨bo, 0, none⟩ (.slice (some ⟨gN, 0, none⟩) s s)).setCell ⟨bm, 0, none⟩ (.int .i64 ((namedL m s).length : Int)))) := Lib.hid (by
            have hb1 := HBB.out.1
            have hb2 := HBB.out.2
            have hsz := HSZ.out
            refine ⟨?_, ?_, ?_, ⟨?_, ?_⟩, ?_⟩
            · exact Elt.Row.chg (Elt.Row.chg (HN.out.congr HH.out) hs1 (fun e => by omega)) hs2 (fun e => by omega)
            · exact hs2.cellS (World.cell?_setCell_same _ _ _ q0) (fun e => hne e)
            · exact World.cell?_setCell_same _ _ _ q2
            · exact (World.frozen?_setCell _ _ _ _).trans ((World.frozen?_setCell _ _ _ _).trans z0)
            · exact (World.frozen?_setCell _ _ _ _).trans z2
            · exact (HC.out.fresh.any).trans ((hs1.mono (fun k _ e => .inl e)).trans (hs2.mono (fun k _ e => .inr e))))
          clear hlt1 hlt2 hs1 hs2
          go_wp2
          go_end0
          exact ⟨gN, rfl, by have := HSZ.out; omega, HFIN.out.1, HFIN.out.2.1, HFIN.out.2.2.1, HFIN.out.2.2.2.1, HFIN.out.2.2.2.2⟩
end Go.Proofs.Ytodohgckncnipaa
/- The marks that the program's groups are numbered by: two closures. -/
namespace Go.Proofs.Ytodohgckncnipaa
open Go.RowKit Go.Maps

/-- A box that holds a table's four slices. -/
def BoxT (w : World) (b : Nat) (rs cs ns es : Sl) : Prop := w.cell? ⟨b, 0, none⟩ = some (slV rs) ∧ w.cell? ⟨b, 1, none⟩ = some (slV cs) ∧ w.cell? ⟨b, 2, none⟩ = some (slV ns) ∧ w.cell? ⟨b, 3, none⟩ = some (slV es)
theorem BoxT.chg {S : Nat → Prop} {w w' : World} {b : Nat} {rs cs ns es : Sl} (h : BoxT w b rs cs ns es) (hc : Chg S w w') (hs : ¬ S b) : BoxT w' b rs cs ns es :=
  ⟨hc.cellS h.1 hs, hc.cellS h.2.1 hs, hc.cellS h.2.2.1 hs, hc.cellS h.2.2.2 hs⟩

set_option maxRecDepth 100000 in
set_option maxHeartbeats 1000000 in
theorem ends_mark (E : List Int) (ea : Option Addr) (ec bt B s : Nat) (rs cs ns : Sl) (w : World) (hb : BoxT w bt rs cs ns (ea, E.length, ec)) (he : intE.In w B (ea, E.length, ec) E) (hs : s < E.length) (_ : E.length ≤ 1000000000) :
    Calls Try.prog 62 #[.int .i64 (s : Int), .pointer (some ⟨bt, 0, none⟩)] w fun e w' => e = .returned (.agg #[.int .i64 (E.getD s 0), .int .i64 0]) ∧ Chg (fun _ => False) w w' := by
  obtain ⟨x, g, o, hx, rfl, c0, x0, x1, -, -⟩ := he.getI hs
  have q3 : w.cell? ⟨bt, 3, none⟩ = some (.slice (some ⟨g, o, none⟩) E.length ec) := hb.2.2.2
  have HX : Hid (E.getD s 0 = x) := Lib.hid (by rw [List.getD_eq_getElem?_getD, hx]; rfl)
  rw [HX.out]
  clear hb he hx
  obtain ⟨wa, hwa⟩ : ∃ X, X = w.alloc (.cells #[.int .i64 0, .int .i64 0] 89) := ⟨_, rfl⟩
  have HCA : Hid (Chg (fun _ => False) w wa) := Lib.hid (by rw [hwa]; exact (Chg.refl _ _).alloc _)
  have y0 : wa.cell? ⟨w.heap.size, 0, none⟩ = some (.int .i64 0) := by rw [hwa, World.cell?_alloc_new]; rfl
  have y1 : wa.cell? ⟨w.heap.size, 1, none⟩ = some (.int .i64 0) := by rw [hwa, World.cell?_alloc_new]; rfl
  have z0 : wa.frozen? ⟨w.heap.size, 0, none⟩ = false := by rw [hwa]; exact World.frozen?_alloc_new _ _ _ _
  have z1 : wa.frozen? ⟨w.heap.size, 1, none⟩ = false := by rw [hwa]; exact World.frozen?_alloc_new _ _ _ _
  have q3 := HCA.out.cellS q3 (fun h => h)
  have c0 := HCA.out.cellS c0 (fun h => h)
  obtain ⟨s0, s1, hsc⟩ := store2 (.int .i64 x) (.int .i64 0) y0 y1
  have HSF := Lib.hid (show _ ∧ _ from ⟨s0, s1⟩)
  have HFF := Lib.hid ((HCA.out.any.trans (hsc.mono (T := fun k => w.heap.size ≤ k) (fun k _ e => by omega))).fresh)
  have HWA := Lib.hid hwa
  clear hwa s0 s1 hsc
  go_enter Try.func62, Try.ntmps62
  go_upto_region 1 with (fail)
  rw [← HWA.out]
  go_wp2
  obtain ⟨s0, s1⟩ := HSF.out
  exact bodyPost_ret (v := .agg #[.int .i64 x, .int .i64 0]) (by simp [results, Try.results62, go_sem, s0, s1]) rfl ⟨rfl, HFF.out⟩

set_option maxRecDepth 100000 in
set_option maxHeartbeats 2000000 in
theorem next_mark (N : List (List Int)) (f : Nat → Int) (l : List Int) (x : Int) (n c s bb bt bc gF B : Nat) (rs cs ns es : Sl) (w : World) (hb : BoxT w bt rs cs ns es) (hN : ListsIn w B ns N) (hf : NumAt w gF n f)
    (hbb : w.cell? ⟨bb, 0, none⟩ = some (.slice (some ⟨gF, 0, none⟩) n n)) (hbc : w.cell? ⟨bc, 0, none⟩ = some (.int .i64 (c : Int))) (hs : s < N.length) (hsn : s < n) (hl : N[s]? = some l) (hx : l[c]? = some x) (hxn : x < n) (hx0 : -1 ≤ x) (_ : n ≤ 1000000000) (_ : N.length ≤ 1000000000) (_ : l.length ≤ 1000000000) :
    Calls Try.prog 63 #[.int .i64 (s : Int), .pointer (some ⟨bb, 0, none⟩), .pointer (some ⟨bt, 0, none⟩), .pointer (some ⟨bc, 0, none⟩)] w fun e w' => e = .returned (.agg #[.int .i64 (f s), .int .i64 (if 0 ≤ x then f x.toNat else -1)]) ∧ Chg (fun _ => False) w w' := by
  obtain ⟨na, nn, nc⟩ := ns
  obtain ⟨rfl, hn1⟩ := hN.len
  obtain ⟨l', gn, on, la, lc, hl', hna, n0, hin, hgn, -⟩ := hN.getIn hs
  rw [hl] at hl'
  obtain rfl := Option.some.inj hl'
  subst hna
  have hcl : c < l.length := (List.getElem?_eq_some_iff.1 hx).1
  obtain ⟨x', gx, ox, hx', hxa, c0, x0, x1, -, -⟩ := hin.getI hcl
  rw [hx] at hx'
  obtain rfl := Option.some.inj hx'
  subst hxa
  have q2 : w.cell? ⟨bt, 2, none⟩ = some (.slice (some ⟨gn, on, none⟩) N.length nc) := hb.2.2.1
  obtain ⟨m0, -, m1⟩ := hf.get hsn
  obtain ⟨wt, hwt⟩ : ∃ X, X = w.alloc (.cells #[.int .i64 0, .int .i64 0] 89) := ⟨_, rfl⟩
  have hst : wt.heap.size = w.heap.size + 1 := by rw [hwt]; simp
  obtain ⟨wa, hwa⟩ : ∃ X, X = wt.alloc (.cells #[.int .i64 (f s), .int .i64 (-1)] 89) := ⟨_, rfl⟩
  have hCT : Chg (fun _ => False) w wt := by rw [hwt]; exact (Chg.refl _ _).alloc _
  have hCB : Chg (fun _ => False) wt wa := by rw [hwa]; exact (Chg.refl _ _).alloc _
  have HCA := Lib.hid (hCT.trans hCB)
  have r0 : wt.cell? ⟨w.heap.size, 0, none⟩ = some (.int .i64 0) := by rw [hwt, World.cell?_alloc_new]; rfl
  have r1 : wt.cell? ⟨w.heap.size, 1, none⟩ = some (.int .i64 0) := by rw [hwt, World.cell?_alloc_new]; rfl
  have k0 : wa.cell? ⟨wt.heap.size, 0, none⟩ = some (.int .i64 (f s)) := by rw [hwa, World.cell?_alloc_new]; rfl
  have k1 : wa.cell? ⟨wt.heap.size, 1, none⟩ = some (.int .i64 (-1)) := by rw [hwa, World.cell?_alloc_new]; rfl
  have v0 : wa.frozen? ⟨wt.heap.size, 0, none⟩ = false := by rw [hwa]; exact World.frozen?_alloc_new _ _ _ _
  have v1 : wa.frozen? ⟨wt.heap.size, 1, none⟩ = false := by rw [hwa]; exact World.frozen?_alloc_new _ _ _ _
  have HF := Lib.hid (fun (j : Nat) (hj : j < n) => HCA.out.cellS (hf.get hj).1 (fun h => h))
  have q2 := HCA.out.cellS q2 (fun h => h)
  have n0' := HCA.out.cellS n0 (fun h => h)
  have c0' := HCA.out.cellS c0 (fun h => h)
  have b0 := HCA.out.cellS hbb (fun h => h)
  have b1 := HCA.out.cellS hbc (fun h => h)
  have bt0 := hCT.cellS hbb (fun h => h)
  have m0' := hCT.cellS m0 (fun h => h)
  have u0 : wt.frozen? ⟨w.heap.size, 0, none⟩ = false := by rw [hwt]; exact World.frozen?_alloc_new _ _ _ _
  have u1 : wt.frozen? ⟨w.heap.size, 1, none⟩ = false := by rw [hwt]; exact World.frozen?_alloc_new _ _ _ _
  have HR := Lib.hid (show _ ∧ _ ∧ _ ∧ _ from ⟨hCB.cellS r0 (fun h => h), hCB.cellS r1 (fun h => h), (hCB.frozen (p := ⟨w.heap.size, 0, none⟩) (by show w.heap.size < _; omega) (fun h => h)).trans u0, (hCB.frozen (p := ⟨w.heap.size, 1, none⟩) (by show w.heap.size < _; omega) (fun h => h)).trans u1⟩)
  have HSW : Hid (w.heap.size < wa.heap.size) := Lib.hid (by have := hCB.size; omega)
  clear u0 u1
  have HWT := Lib.hid hwt
  have HWA := Lib.hid hwa
  clear hwt hwa hCT hCB hb hN hf hin hl hx c0 n0 hbb hbc m0
  obtain ⟨y, hy⟩ : ∃ Y, (if 0 ≤ x then f x.toNat else -1) = Y := ⟨_, rfl⟩
  rw [hy]
  have HY := Lib.hid hy
  clear hy
  go_enter Try.func63, Try.ntmps63
  go_upto_region 1 with (fail)
  rw [← HWT.out]
  go_upto_region 2 with (fail)
  rw [← HWA.out]
  have HFA := Lib.hid (show _ ∧ _ ∧ _ ∧ _ from ⟨q2, n0', c0', b1⟩)
  refine wp_region_same (fun w' => Chg (fun _ => False) wa w') (by kernel_rfl) (by kernel_rfl) ?_ ?_
  · exact (Chg.refl _ _).drew
  (refine wpC_read rfl (fun _ _ _ h => h) (fun K hK => ?_); apply Exists.intro; refine ⟨fun _ w' _ hC => ?_, ?_⟩; ((skip); go_simp; try with_reducible rfl); (try go_simp); refine hK _ ?_; clear hK K); (refine wpC_read rfl (fun _ _ _ h => h) (fun K hK => ?_); apply Exists.intro; refine ⟨fun _ w' _ hC => ?_, ?_⟩; ((have a0 := hC.cellS HFA.out.1 (fun h => h); have a1 := hC.cellS HFA.out.2.1 (fun h => h); have a2 := hC.cellS HFA.out.2.2.1 (fun h => h); have a3 := hC.cellS HFA.out.2.2.2 (fun h => h)); go_simp; try with_reducible rfl); (try go_simp); refine hK _ ?_; clear hK K); (refine wpC_read rfl (fun _ _ _ h => h) (fun K hK => ?_); apply Exists.intro; refine ⟨fun _ w' _ hC => ?_, ?_⟩; ((skip); go_simp; try with_reducible rfl); (try go_simp); refine hK _ ?_; clear hK K); (refine wpC_read rfl (fun _ _ _ h => h) (fun K hK => ?_); apply Exists.intro; refine ⟨fun _ w' _ hC => ?_, ?_⟩; ((skip); go_simp; try with_reducible rfl); (try go_simp); refine hK _ ?_; clear hK K); (refine wpC_read rfl (fun _ _ _ h => h) (fun K hK => ?_); apply Exists.intro; refine ⟨fun _ w' _ hC => ?_, ?_⟩; ((have a0 := hC.cellS HFA.out.1 (fun h => h); have a1 := hC.cellS HFA.out.2.1 (fun h => h); have a2 := hC.cellS HFA.out.2.2.1 (fun h => h); have a3 := hC.cellS HFA.out.2.2.2 (fun h => h)); go_simp; try with_reducible rfl); (try go_simp); refine hK _ ?_; clear hK K); (refine wpC_read rfl (fun _ _ _ h => h) (fun K hK => ?_); apply Exists.intro; refine ⟨fun _ w' _ hC => ?_, ?_⟩; ((have a0 := hC.cellS HFA.out.1 (fun h => h); have a1 := hC.cellS HFA.out.2.1 (fun h => h); have a2 := hC.cellS HFA.out.2.2.1 (fun h => h); have a3 := hC.cellS HFA.out.2.2.2 (fun h => h)); go_simp; try with_reducible rfl); (try go_simp); refine hK _ ?_; clear hK K); (refine wpC_read rfl (fun _ _ _ h => h) (fun K hK => ?_); apply Exists.intro; refine ⟨fun _ w' _ hC => ?_, ?_⟩; ((skip); go_simp; try with_reducible rfl); (try go_simp); refine hK _ ?_; clear hK K); (refine wpC_read rfl (fun _ _ _ h => h) (fun K hK => ?_); apply Exists.intro; refine ⟨fun _ w' _ hC => ?_, ?_⟩; ((have a0 := hC.cellS HFA.out.1 (fun h => h); have a1 := hC.cellS HFA.out.2.1 (fun h => h); have a2 := hC.cellS HFA.out.2.2.1 (fun h => h); have a3 := hC.cellS HFA.out.2.2.2 (fun h => h)); go_simp; try with_reducible rfl); (try go_simp); refine hK _ ?_; clear hK K); (refine wpC_read rfl (fun _ _ _ h => h) (fun K hK => ?_); apply Exists.intro; refine ⟨fun _ w' _ hC => ?_, ?_⟩; ((skip); go_simp; try with_reducible rfl); (try go_simp); refine hK _ ?_; clear hK K)
  refine wpC_nil ?_
  intro wy hCy
  rw [hst] at k0 k1 v0 v1
  have hsw : wt.heap.size ≤ wa.heap.size := by rw [HWA.out]; simp
  have HCY := Lib.hid (HCA.out.trans hCy)
  have k0 := hCy.cellS k0 (fun h => h)
  have k1 := hCy.cellS k1 (fun h => h)
  have hkb := World.block_lt_of_cell? _ _ k1
  have v1 : wy.frozen? ⟨w.heap.size + 1, 1, none⟩ = false := (hCy.frozen (p := ⟨w.heap.size + 1, 1, none⟩) (by show w.heap.size + 1 < _; rw [HWA.out]; simp; omega) (fun h => h)).trans v1
  have b0 := hCy.cellS b0 (fun h => h)
  by_cases h0 : 0 ≤ x
  · obtain ⟨j, rfl⟩ : ∃ j : Nat, x = (j : Int) := ⟨x.toNat, by omega⟩
    have b22 : decide (0 ≤ (j : Int)) = true := by simp
    have hj : j < n := by omega
    have f0 := hCy.cellS (HF.out j hj) (fun h => h)
    obtain rfl : f j = y := by have := HY.out; rw [if_pos h0] at this; exact this
    have hs1 := setCellChg wy (w.heap.size + 1) 1 (.int .i64 (f j))
    have p0 := (World.cell?_setCell_other wy ⟨w.heap.size + 1, 1, none⟩ ⟨w.heap.size + 1, 0, none⟩ (.int .i64 (f j)) (by intro e; injection e with _ e; cases e)).trans k0
    have p1 := World.cell?_setCell_same wy ⟨w.heap.size + 1, 1, none⟩ (.int .i64 (f j)) k1
    have g0 := hs1.cellS (hCy.cellS HR.out.1 (fun h => h)) (fun (e : w.heap.size = w.heap.size + 1) => by omega)
    have g1 := hs1.cellS (hCy.cellS HR.out.2.1 (fun h => h)) (fun (e : w.heap.size = w.heap.size + 1) => by omega)
    have hlt : w.heap.size < wy.heap.size := by have := hCy.size; have := HSW.out; omega
    have t0 := (hs1.frozen (p := ⟨w.heap.size, 0, none⟩) hlt (fun (e : w.heap.size = w.heap.size + 1) => by omega)).trans ((hCy.frozen (p := ⟨w.heap.size, 0, none⟩) HSW.out (fun h => h)).trans HR.out.2.2.1)
    have t1 := (hs1.frozen (p := ⟨w.heap.size, 1, none⟩) hlt (fun (e : w.heap.size = w.heap.size + 1) => by omega)).trans ((hCy.frozen (p := ⟨w.heap.size, 1, none⟩) HSW.out (fun h => h)).trans HR.out.2.2.2)
    obtain ⟨s0, s1, hsc⟩ := store2 (.int .i64 (f s)) (.int .i64 (f j)) g0 g1
    have HSF := Lib.hid (show _ ∧ _ from ⟨s0, s1⟩)
    have HFF := Lib.hid (((HCY.out.any.trans (hs1.mono (fun k _ e => by omega))).trans (hsc.mono (T := fun k => w.heap.size ≤ k) (fun k _ e => by omega))).fresh)
    clear s0 s1 hsc
    go_wp2
    obtain ⟨s0, s1⟩ := HSF.out
    exact bodyPost_ret (v := .agg #[.int .i64 (f s), .int .i64 (f j)]) (by simp [results, Try.results63, go_sem, s0, s1]) rfl ⟨rfl, HFF.out⟩
  · have b22 : decide (0 ≤ x) = false := by simpa using h0
    obtain rfl : -1 = y := by have := HY.out; rw [if_neg h0] at this; exact this
    have g0 := hCy.cellS HR.out.1 (fun h => h)
    have g1 := hCy.cellS HR.out.2.1 (fun h => h)
    have t0 := (hCy.frozen (p := ⟨w.heap.size, 0, none⟩) HSW.out (fun h => h)).trans HR.out.2.2.1
    have t1 := (hCy.frozen (p := ⟨w.heap.size, 1, none⟩) HSW.out (fun h => h)).trans HR.out.2.2.2
    obtain ⟨s0, s1, hsc⟩ := store2 (.int .i64 (f s)) (.int .i64 (-1)) g0 g1
    have HSF := Lib.hid (show _ ∧ _ from ⟨s0, s1⟩)
    have HFF := Lib.hid ((HCY.out.any.trans (hsc.mono (T := fun k => w.heap.size ≤ k) (fun k _ e => by omega))).fresh)
    clear s0 s1 hsc
    go_wp2
    obtain ⟨s0, s1⟩ := HSF.out
    exact bodyPost_ret (v := .agg #[.int .i64 (f s), .int .i64 (-1)]) (by simp [results, Try.results63, go_sem, s0, s1]) rfl ⟨rfl, HFF.out⟩
end Go.Proofs.Ytodohgckncnipaa
/- A round of refining, plainly. -/
namespace Go.Proofs.Ytodohgckncnipaa
open Go.RowKit

theorem kinds_congr {α β : Type} [DecidableEq α] [DecidableEq β] {f : Nat → α} {g : Nat → β} {n : Nat} (h : ∀ a b, a < n → b < n → (g a = g b ↔ f a = f b)) : kinds f n = kinds g n :=
  Nat.le_antisymm (kinds_mono fun a b ha hb e => (h a b ha hb).1 e) (kinds_mono fun a b ha hb e => (h a b ha hb).2 e)
theorem kinds_grp (m : Nat → Int × Int) (n : Nat) : (namedL m n).length = kinds (grpN m n) n := by
  rw [kinds_named]
  exact kinds_congr fun a b ha hb => grpN_eq ha hb
/-- Groups that stand for something: not below nothing, sound, and by what ends. -/
structure GrpOk (t : TabD) (F : Nat → Int) : Prop where
  z : ∀ a, a < t.n.length → 0 ≤ F a
  s : SoundG t F
  e : ∀ a b, a < t.n.length → b < t.n.length → F a = F b → t.e.getD a 0 = t.e.getD b 0
/-- What the columns ahead of c have told apart. -/
structure ColsOk (t : TabD) (F F' : Nat → Int) (c : Nat) : Prop where
  ok : GrpOk t F'
  r : ∀ a b, a < t.n.length → b < t.n.length → F' a = F' b → F a = F b
  g : ∀ d, d < c → ∀ a b, a < t.n.length → b < t.n.length → F' a = F' b → (goN (bareT t) a d < t.n.length ↔ goN (bareT t) b d < t.n.length) ∧ (goN (bareT t) a d < t.n.length → F (goN (bareT t) a d) = F (goN (bareT t) b d))
theorem ColsOk.start {t : TabD} {F : Nat → Int} (h : GrpOk t F) : ColsOk t F F 0 := ⟨h, fun _ _ _ _ e => e, fun _ hd => absurd hd (Nat.not_lt_zero _)⟩
theorem ColsOk.step {t : TabD} {F F' : Nat → Int} {c : Nat} (hm : MayS t) (h : ColsOk t F F' c) (hc : c < colsN t) : ColsOk t F (grpN (markC t F' c) t.n.length) (c + 1) := by
  have key : ∀ a b, a < t.n.length → b < t.n.length → grpN (markC t F' c) t.n.length a = grpN (markC t F' c) t.n.length b → F' a = F' b ∧ (goN (bareT t) a c < t.n.length ↔ goN (bareT t) b c < t.n.length) ∧ (goN (bareT t) a c < t.n.length → F' (goN (bareT t) a c) = F' (goN (bareT t) b c)) := by
    intro a b ha hb e
    have := (grpN_eq ha hb).1 e
    unfold markC at this
    injection this with h1 h2
    by_cases ga : goN (bareT t) a c < t.n.length <;> by_cases gb : goN (bareT t) b c < t.n.length
    · rw [if_pos ga, if_pos gb] at h2
      exact ⟨h1, ⟨fun _ => gb, fun _ => ga⟩, fun _ => h2⟩
    · rw [if_pos ga, if_neg gb] at h2
      have := h.ok.z _ ga
      omega
    · rw [if_neg ga, if_pos gb] at h2
      have := h.ok.z _ gb
      omega
    · exact ⟨h1, ⟨fun k => absurd k ga, fun k => absurd k gb⟩, fun k => absurd k ga⟩
  refine ⟨⟨fun a _ => by unfold grpN; omega, fun a b ha hb he => ?_, fun a b ha hb e => h.ok.e a b ha hb (key a b ha hb e).1⟩, fun a b ha hb e => h.r a b ha hb (key a b ha hb e).1, fun d hd a b ha hb e => ?_⟩
  · exact (grpN_eq ha hb).2 (markC_sound hm h.ok.s hc ha hb he)
  · obtain ⟨k1, k2, k3⟩ := key a b ha hb e
    by_cases hdc : d < c
    · exact h.g d hdc a b ha hb k1
    · obtain rfl : d = c := by omega
      exact ⟨k2, fun g1 => h.r _ _ g1 (k2.1 g1) (k3 g1)⟩
/-- Where a round tells nothing more apart: all is told. -/
theorem ColsOk.done {t : TabD} {F F' : Nat → Int} (hm : MayS t) (hF : GrpOk t F) (h : ColsOk t F F' (colsN t)) (hk : kinds F' t.n.length ≤ kinds F t.n.length) {a b : Nat} (ha : a < t.n.length) (hb : b < t.n.length) : F' a = F' b ↔ eqB t a b = true := by
  have back : ∀ x y, x < t.n.length → y < t.n.length → F x = F y → F' x = F' y := fun x y hx hy e => kinds_same h.r hk hx hy e
  have := groups_done hm hF.s hF.e (fun c hc x y hx hy e => h.g c hc x y hx hy (back x y hx hy e)) ha hb
  exact ⟨fun e => this.1 (h.r a b ha hb e), fun e => back a b ha hb (this.2 e)⟩
theorem ColsOk.more {t : TabD} {F F' : Nat → Int} {c : Nat} (h : ColsOk t F F' c) : kinds F t.n.length ≤ kinds F' t.n.length := kinds_mono h.r
theorem grp_first (t : TabD) : GrpOk t (grpN (fun s => (t.e.getD s 0, (0 : Int))) t.n.length) := by
  refine ⟨fun a _ => by unfold grpN; omega, fun a b ha hb he => (grpN_eq ha hb).2 ?_, fun a b ha hb e => ?_⟩
  · have := eqB_end he
    rw [endN_lt ha, endN_lt hb] at this
    simp only [this]
  · have := (grpN_eq ha hb).1 e
    injection this
end Go.Proofs.Ytodohgckncnipaa
