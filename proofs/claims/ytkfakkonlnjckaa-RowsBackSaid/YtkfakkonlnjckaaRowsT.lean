/- A table of lists: rows.Make. -/
import Derived.Test.YtkfakkonlnjckaaRowsR
namespace Go.Proofs.Ytkfakkonlnjckaa
open Go.RowKit

def makeL (LL : List (List Int)) : List RowD × List Int := LL.foldl (fun t l => addL t (rowL l)) ([], [])
theorem makeL_snoc (LL : List (List Int)) (l : List Int) : makeL (LL ++ [l]) = addL (makeL LL) (rowL l) := by simp [makeL, List.foldl_append]
def listOk (W : Int) (l : List Int) : Bool := !noValB l && decide ((l.length : Int) = W)
def makeOk (W : Int) (LL : List (List Int)) : Bool := LL.all (listOk W)
theorem addL_len (t : List RowD × List Int) (r : RowD) : (addL t r).1.length ≤ t.1.length + 1 ∧ (addL t r).2.length = t.2.length + 1 := by
  unfold addL
  split <;> simp
theorem makeL_len (LL : List (List Int)) : (makeL LL).1.length ≤ LL.length ∧ (makeL LL).2.length = LL.length := by
  have key : ∀ (LL : List (List Int)) (t : List RowD × List Int), (LL.foldl (fun t l => addL t (rowL l)) t).1.length ≤ t.1.length + LL.length ∧ (LL.foldl (fun t l => addL t (rowL l)) t).2.length = t.2.length + LL.length := by
    intro LL
    induction LL with
    | nil => intro t; simp
    | cons l LL ih =>
      intro t
      have h1 := ih (addL t (rowL l))
      have h2 := addL_len t (rowL l)
      simp only [List.foldl_cons, List.length_cons]
      omega
  have := key LL ([], [])
  simpa [makeL] using this
/-- Lists of lists. -/
def ListsIn (w : World) (B : Nat) (s : Sl) (LL : List (List Int)) : Prop := ∃ X : List Sl, listE.In w B s X ∧ X.length = LL.length ∧ ∀ (j : Nat) x l, X[j]? = some x → LL[j]? = some l → intE.In w B x l
theorem ListsIn.same {w w' : World} {B : Nat} {s : Sl} {LL : List (List Int)} (h : ListsIn w B s LL) (hc : Chg (fun _ => False) w w') : ListsIn w' B s LL := by
  obtain ⟨X, h1, h2, h3⟩ := h
  exact ⟨X, h1.same hc, h2, fun j x r hx hr => (h3 j x r hx hr).same hc⟩
theorem ListsIn.get {w : World} {B : Nat} {a : Option Addr} {n c : Nat} {LL : List (List Int)} (h : ListsIn w B (a, n, c) LL) {k : Nat} (hk : k < LL.length) :
    ∃ (l : List Int) (g o : Nat) (la : Option Addr) (lc gl ol : Nat), LL[k]? = some l ∧ a = some ⟨g, o, none⟩ ∧ w.cell? ⟨g, o + k, none⟩ = some (.slice la l.length lc) ∧ l.length ≤ lc ∧ I.BytesAt w gl ol l ∧ (0 < l.length → la = some ⟨gl, ol, none⟩ ∧ B ≤ gl) ∧ g < w.heap.size ∧ B ≤ g := by
  obtain ⟨X, ⟨h1, h2, g, o, h3, h4⟩, h5, h6⟩ := h
  have hx : X[k]? = some X[k] := List.getElem?_eq_getElem (by omega)
  have hl : LL[k]? = some LL[k] := List.getElem?_eq_getElem hk
  obtain ⟨k1, k2, gl, ol, k3, k4⟩ := h6 k _ _ hx hl
  have hc := h3.get hx (i := 0) (u := slV X[k]) rfl
  rw [Nat.add_zero, show listE.sz = 1 from rfl, Nat.mul_one] at hc
  obtain ⟨h4, h7⟩ := h4 (by omega)
  refine ⟨LL[k], g, o, X[k].1, X[k].2.2, gl, ol, hl, h4, ?_, by omega, intAt.1 k3, k4, h3.lt (by intro e; rw [e] at h5; simp at h5; omega), h7⟩
  rw [hc, ← k1]
  rfl
theorem ListsIn.len {w : World} {B : Nat} {a : Option Addr} {n c : Nat} {LL : List (List Int)} (h : ListsIn w B (a, n, c) LL) : n = LL.length ∧ n ≤ c := by
  obtain ⟨X, ⟨h1, h2, _⟩, h5, _⟩ := h
  exact ⟨by rw [← h5]; exact h1, h2⟩
/-- A list of ints of its own block. -/
def OfIn (w : World) (B : Nat) (a : Option Addr) (O : List Int) : Prop := (O = [] ∧ a = none) ∨ ∃ g, a = some ⟨g, 0, none⟩ ∧ I.Row w g O ∧ B ≤ g
theorem OfIn.same {w w' : World} {B : Nat} {a : Option Addr} {O : List Int} (h : OfIn w B a O) (hc : Chg (fun _ => False) w w') : OfIn w' B a O := by
  rcases h with h | ⟨g, h1, h2, h3⟩
  · exact .inl h
  · exact .inr ⟨g, h1, h2.chg hc (fun h => h), h3⟩
def tabV (W : Int) (ra : Option Addr) (rn rc : Nat) (oa : Option Addr) (on oc : Nat) (e : Int) : Value := .tuple #[.agg #[.int .i64 W, .slice ra rn rc, .slice oa on oc], .int .i64 e]

theorem make_widthBad (W : Int) (a : Option Addr) (n c : Nat) (w : World) (hW : ¬ (0 ≤ W ∧ W ≤ 65536)) :
    Calls Try.prog 18 #[.int .i64 W, .slice a n c] w fun e w' => e = .returned (tabV 0 none 0 0 none 0 0 1) ∧ Chg (fun _ => False) w w' := by
  have HC0 := Lib.hid ((Chg.refl (fun _ => False) w).alloc (.cells #[.int .i64 0, .slice none 0 0, .slice none 0 0] 45))
  by_cases h1 : 0 ≤ W
  · have d1 : decide (W < 0) = false := by simp; omega
    have d2 : decide (65536 < W) = true := by simp; omega
    go_enter Try.func18, Try.ntmps18
    go_wp2
    exact bodyPost_ret (v := .tuple #[.agg #[.int .i64 0, .slice none 0 0, .slice none 0 0], .int .i64 1]) (by simp [results, Try.results18, go_sem]) rfl ⟨rfl, HC0.out⟩
  · have d1 : decide (W < 0) = true := by simp; omega
    go_enter Try.func18, Try.ntmps18
    go_wp2
    exact bodyPost_ret (v := .tuple #[.agg #[.int .i64 0, .slice none 0 0, .slice none 0 0], .int .i64 1]) (by simp [results, Try.results18, go_sem]) rfl ⟨rfl, HC0.out⟩

theorem RowsIn.lower {E : Elt (Int × Int)} {F : Elt (Int × Sl)} {w : World} {B B' : Nat} {s : Sl} {R : List RowD} (h : RowsIn E F w B s R) (hB : B' ≤ B) : RowsIn E F w B' s R := by
  obtain ⟨X, h1, h2, h3⟩ := h
  exact ⟨X, h1.lower hB, h2, fun j x r hx hr => ⟨(h3 j x r hx hr).1, (h3 j x r hx hr).2.1, (h3 j x r hx hr).2.2.lower hB⟩⟩
theorem OfIn.lower {w : World} {B B' : Nat} {a : Option Addr} {O : List Int} (h : OfIn w B a O) (hB : B' ≤ B) : OfIn w B' a O := by
  rcases h with h | ⟨g, h1, h2, h3⟩
  · exact .inl h
  · exact .inr ⟨g, h1, h2, by omega⟩
/-- The table is done. -/
theorem TabSt.final {E : Elt (Int × Int)} {F : Elt (Int × Sl)} {bt : Nat} {w w' : World} {W : Int} {R : List RowD} {O : List Int} {a ua : Option Addr} {n c m uc : Nat} (h : TabSt E F bt w W R O (.slice a n c) (.slice ua m uc)) (hc : Chg (fun k => k ≤ bt) w w') :
    RowsIn E F w' (bt + 1) (a, n, n) R ∧ OfIn w' (bt + 1) ua O ∧ n = R.length ∧ m = O.length ∧ n ≤ c ∧ m ≤ uc := by
  obtain ⟨X, h1, h2, h3⟩ := h.rows
  have h1' := h1.chg hc (fun g hg _ e => by omega)
  obtain ⟨a', g, c', hv, hle, -⟩ := h1.at'
  injection hv with e1 e2 e3
  subst e1 e2 e3
  refine ⟨⟨X, h1'.in' (Nat.le_refl _), h2, fun j x r hx hr => (h3 j x r hx hr).1.chg0 hc (fun hp g o hg e => by have := ((h3 j x r hx hr).2 hp g o hg).2.2; omega)⟩, ?_, h2, ?_, hle, ?_⟩
  · rcases h.of with ⟨e, rfl⟩ | ⟨g, C, e, hB, hR, hp, _⟩
    · injection e with e1 e2 e3
      exact .inl ⟨rfl, e1⟩
    · injection e with e1 e2 e3
      have hr2 := (hR.chg hc (show ¬ g ≤ bt by omega))
      refine .inr ⟨g, e1, intRow.1 ⟨fun k u hk => ?_, hr2.z, hr2.lt, fun x hx => hr2.ok x (hp.subset hx)⟩, hB⟩
      have := (hr2.at' hp).c k u hk
      rwa [Nat.zero_add] at this
  · rcases h.of with ⟨e, rfl⟩ | ⟨g, C, e, hB, hR, hp, _⟩
    · injection e
    · injection e
  · rcases h.of with ⟨e, rfl⟩ | ⟨g, C, e, hB, hR, hp, _⟩
    · injection e with e1 e2 e3
      subst e2 e3
      exact Nat.le_refl _
    · injection e with e1 e2 e3
      subst e2 e3
      exact hp.length_le
theorem usualL_int (l : List Int) (h : ∀ n ∈ l, I.Byte n) : I.Byte (usualL l) := by
  rcases usual_usualL l with ⟨_, h2⟩ | ⟨h1, _⟩
  · rw [h2]; exact ⟨by omega, by omega⟩
  · exact h _ h1
/-- What Make answers. -/
def MakePost (w : World) (W : Int) (LL : List (List Int)) (e : Ending) (w' : World) : Prop :=
  (makeOk W LL = false ∧ e = .returned (tabV 0 none 0 0 none 0 0 1) ∧ Chg (fun _ => False) w w') ∨
  (makeOk W LL = true ∧ ∃ ra oa, e = .returned (tabV W ra (makeL LL).1.length (makeL LL).1.length oa (makeL LL).2.length (makeL LL).2.length 0) ∧ RowsIn cellE rowE w' w.heap.size (ra, (makeL LL).1.length, (makeL LL).1.length) (makeL LL).1 ∧ OfIn w' w.heap.size oa (makeL LL).2 ∧ Chg (fun _ => False) w w')

set_option maxRecDepth 100000 in
set_option maxHeartbeats 8000000 in
theorem make_any (W : Int) (LL : List (List Int)) (a : Option Addr) (c B : Nat) (w : World) (h : ListsIn w B (a, LL.length, c) LL) (h0 : 0 ≤ W) (h1 : W ≤ 65536) (hn : LL.length ≤ 65536) (hl : ∀ l ∈ LL, l.length ≤ 65536) :
    Calls Try.prog 18 #[.int .i64 W, .slice a LL.length c] w (MakePost w W LL) := by
  have HL := Lib.hid h
  have HLL := Lib.hid hl
  have d1 : decide (W < 0) = false := by simp; omega
  have d2 : decide (65536 < W) = false := by simp; omega
  have HC0 := Lib.hid ((Chg.refl (fun k => w.heap.size ≤ k) w).alloc (.cells #[.int .i64 0, .slice none 0 0, .slice none 0 0] 45))
  have HR0 : Hid (∀ wr, Chg (fun k => w.heap.size + 1 ≤ k) (w.alloc (.cells #[.int .i64 0, .slice none 0 0, .slice none 0 0] 45)) wr → (wr.cell? ⟨w.heap.size, 0, none⟩ = some (.int .i64 0) ∧ wr.cell? ⟨w.heap.size, 1, none⟩ = some (.slice none 0 0) ∧ wr.cell? ⟨w.heap.size, 2, none⟩ = some (.slice none 0 0)) ∧ ∀ j, wr.frozen? ⟨w.heap.size, j, none⟩ = false) := Lib.hid fun wr hc =>
    ⟨⟨hc.cellS (by simp) (by show ¬ w.heap.size + 1 ≤ w.heap.size; omega), hc.cellS (by simp) (by show ¬ w.heap.size + 1 ≤ w.heap.size; omega), hc.cellS (by simp) (by show ¬ w.heap.size + 1 ≤ w.heap.size; omega)⟩, fun j => (hc.frozen (p := ⟨w.heap.size, j, none⟩) (by simp) (by show ¬ w.heap.size + 1 ≤ w.heap.size; omega)).trans (World.frozen?_alloc_new _ _ _ _)⟩
  obtain ⟨w1, hw1⟩ : ∃ w1, w1 = w.alloc (.cells #[.int .i64 0, .slice none 0 0, .slice none 0 0] 45) := ⟨_, rfl⟩
  have hs1 : w1.heap.size = w.heap.size + 1 := by rw [hw1]; simp
  have HT0 : Hid (TabSt cellE rowE (w.heap.size + 1) (w1.alloc (.cells #[.int .i64 W, .slice none 0 0, .slice none 0 0] 45)) W [] [] (.slice none 0 0) (.slice none 0 0)) := Lib.hid (by
    rw [← hs1]
    exact ⟨by rw [World.cell?_alloc_new]; rfl, by rw [World.cell?_alloc_new]; rfl, World.frozen?_alloc_new _ _ _ _, by rw [World.cell?_alloc_new]; rfl, World.frozen?_alloc_new _ _ _ _, ⟨[], .nil _ _, rfl, fun j x r hx => by simp at hx⟩, .nil _ _, fun g hg => by cases hg⟩)
  have HC1 : Hid (Chg (fun k => w.heap.size + 1 ≤ k) w1 (w1.alloc (.cells #[.int .i64 W, .slice none 0 0, .slice none 0 0] 45))) := Lib.hid ((Chg.refl _ _).alloc _)
  rw [← hw1] at HC0 HR0
  have HW1 := Lib.hid hw1
  clear h hl hw1 hs1
  go_enter Try.func18, Try.ntmps18
  go_wp2
  rw [← HW1.out]
  go_loopw [27] (fun q wr => ∃ (k : Nat) (v u : Value), k ≤ LL.length ∧ q = .int .i64 k ∧ makeOk W (LL.take k) = true ∧ TabSt cellE rowE (w.heap.size + 1) wr W (makeL (LL.take k)).1 (makeL (LL.take k)).2 v u ∧ Chg (fun k => w.heap.size + 1 ≤ k) w1 wr) (fun q _ => LL.length - (intOf q).toNat)
  case atStart => exact ⟨0, _, _, by omega, rfl, rfl, HT0.out, HC1.out⟩
  case round =>
    clear HT0 HC1
    obtain ⟨k, v, u, hk, rfl, hok, ht, hc⟩ := hrel
    have HOK := Lib.hid hok
    have HT := Lib.hid ht
    have HC := Lib.hid hc
    have HCW := Lib.hid ((HC0.out.trans (hc.mono (T := fun k => w.heap.size ≤ k) (fun k _ e => by omega))).fresh)
    obtain ⟨⟨r0, r1, r2⟩, hz⟩ := HR0.out wr hc
    have HR := Lib.hid (And.intro (And.intro r0 (And.intro r1 r2)) hz)
    clear hok ht hc r0 r1 r2 hz
    by_cases hkl : k < LL.length
    · have b28 : decide ((k : Int) < (LL.length : Int)) = true := by simp; omega
      obtain ⟨l, g, o, la, lc, gl, ol, hlk, rfl, c0, hlc, hla, hlp, -, -⟩ := (HL.out.same HCW.out).get hkl
      have HLK := Lib.hid hlk
      have HLA := Lib.hid hla
      have HLP : Hid (0 < l.length → la = some ⟨gl, ol, none⟩) := Lib.hid (fun h => (hlp h).1)
      have hl6 := HLL.out l (List.mem_of_getElem? hlk)
      have HTK : Hid (LL.take (k + 1) = LL.take k ++ [l]) := Lib.hid (by rw [List.take_add_one, hlk]; rfl)
      have HBADP : Hid (listOk W l = false → makeOk W LL = false) := Lib.hid (fun h => by
        unfold makeOk
        rw [List.all_eq_false]
        exact ⟨l, List.mem_of_getElem? HLK.out, by simp [h]⟩)
      clear hlk hla hlp
      by_cases hnv : noValB l = true
      · have HMB := Lib.hid (HBADP.out (by unfold listOk; rw [hnv]; rfl))
        go_wp2_with fail
        refine (of_bad l la gl ol lc wr HLA.out HLP.out hl6 hnv).mono ?_
        rintro e w2 ⟨rfl, hc2⟩
        unfold ofV slV
        obtain ⟨⟨r0, r1, r2⟩, -⟩ := HR0.out w2 (HC.out.trans hc2.any)
        obtain ⟨-, hz⟩ := HR0.out w2 (HC.out.trans hc2.any)
        have z0 := hz 0
        have z1 := hz 1
        have z2 := hz 2
        have HC2 := Lib.hid (HCW.out.trans hc2)
        have hlt : w.heap.size < w2.heap.size := World.block_lt_of_cell? _ _ r0
        clear hc2 hz c0
        go_wp2
        obtain ⟨f0, f1, f2, f3⟩ := store3 (.int .i64 0) (.slice none 0 0) (.slice none 0 0) r0 r1 r2
        have f0 := ((Chg.refl (fun _ => False) _).alloc (.cells #[.int .i64 0, .slice none 0 0] 27)).cellS f0 (fun h => h)
        have f1 := ((Chg.refl (fun _ => False) _).alloc (.cells #[.int .i64 0, .slice none 0 0] 27)).cellS f1 (fun h => h)
        have f2 := ((Chg.refl (fun _ => False) _).alloc (.cells #[.int .i64 0, .slice none 0 0] 27)).cellS f2 (fun h => h)
        have h4 := (((HC2.out.any (S := fun k => w.heap.size ≤ k)).trans (f3.mono (fun k _ e => by omega))).alloc (.cells #[.int .i64 0, .slice none 0 0] 27)).fresh
        clear f3
        generalize ((((w2.setCell ⟨w.heap.size, 0, none⟩ (.int .i64 0)).setCell ⟨w.heap.size, 1, none⟩ (.slice none 0 0)).setCell ⟨w.heap.size, 2, none⟩ (.slice none 0 0)).alloc (.cells #[.int .i64 0, .slice none 0 0] 27)) = WW at *
        exact bodyPost_ret (v := .tuple #[.agg #[.int .i64 0, .slice none 0 0, .slice none 0 0], .int .i64 1]) (by simp [results, Try.results18, go_sem, f0, f1, f2]) rfl (.inl ⟨HMB.out, rfl, h4⟩)
      · have hnv : noValB l = false := by simpa using hnv
        go_wp2_with fail
        refine (of_ok l la gl ol lc wr HLA.out HLP.out hl6 hnv).mono ?_
        rintro e w2 ⟨⟨sa, sn, sc⟩, rfl, hin, hc2⟩
        obtain rfl : sn = (cellsFrom (usualL l) 0 l).length := hin.1
        unfold ofV slV
        simp only
        have HIN := Lib.hid hin
        have HC2 := Lib.hid hc2
        have HT2 := Lib.hid (HT.out.same hc2)
        obtain ⟨⟨r0, r1, r2⟩, hz⟩ := HR0.out w2 (HC.out.trans hc2.any)
        have z0 := hz 0
        have z1 := hz 1
        have z2 := hz 2
        have hlt : w.heap.size < w2.heap.size := World.block_lt_of_cell? _ _ r0
        clear hin hc2 hz c0
        by_cases hlw : (l.length : Int) = W
        · have q1 : ((l.length : Int) != W) = false := by simpa using hlw
          have HLO : Hid (listOk W l = true) := Lib.hid (by unfold listOk; rw [hnv]; simpa using hlw)
          have HOK2 : Hid (makeOk W (LL.take (k + 1)) = true) := Lib.hid (by
            have := HOK.out
            unfold makeOk at this ⊢
            rw [HTK.out, List.all_append, this]
            simp [HLO.out])
          have HML := Lib.hid (makeL_len (LL.take k))
          have hR1 : (makeL (LL.take k)).1.length ≤ 1000000 := by have := HML.out.1; have := List.length_take_le k LL; omega
          have hO1 : (makeL (LL.take k)).2.length ≤ 1000000 := by have := HML.out.2; have := List.length_take_le k LL; omega
          have HBS : Hid (w.heap.size + 2 ≤ wr.heap.size) := Lib.hid (by have := HT.out.lt; omega)
          have HXI : Hid (RowIn cellE (w2.alloc (.cells #[.int .i64 (usualL l), .slice sa (cellsFrom (usualL l) 0 l).length sc] 27)) (w.heap.size + 1 + 1) (usualL l, sa, (cellsFrom (usualL l) 0 l).length, sc) (usualL l, cellsFrom (usualL l) 0 l)) := Lib.hid
            ⟨rfl, usualL_int l HLA.out.byte, (HIN.out.lower (by have := HBS.out; omega)).same ((Chg.refl _ _).alloc _)⟩
          have HXA : Hid (0 < (cellsFrom (usualL l) 0 l).length → ∀ g o, sa = some ⟨g, o, none⟩ → v.ownBlock ≠ some g ∧ u.ownBlock ≠ some g ∧ w.heap.size + 1 < g) := Lib.hid (fun hp g o hg => by
            obtain ⟨_, _, g', o', _, k5⟩ := HIN.out
            obtain ⟨h6, h7⟩ := k5 hp
            change sa = _ at h6
            rw [hg] at h6
            injection h6 with h6
            injection h6 with h6
            subst h6
            obtain ⟨X, hX, _⟩ := HT.out.rows
            have := HBS.out
            exact ⟨fun e => by have := (hX.blk e).2; omega, fun e => by have := (HT.out.of.blk e).2; omega, by omega⟩)
          have HTA := Lib.hid (HT2.out.same ((Chg.refl (fun _ => False) w2).alloc (.cells #[.int .i64 (usualL l), .slice sa (cellsFrom (usualL l) 0 l).length sc] 27)))
          have HLL1 : Hid ((cellsFrom (usualL l) 0 l).length ≤ 1000000000) := Lib.hid (by have := cellsFrom_le (usualL l) l 0; omega)
          have HSN : Hid (makeL (LL.take (k + 1)) = addL (makeL (LL.take k)) (usualL l, cellsFrom (usualL l) 0 l)) := Lib.hid (by rw [HTK.out, makeL_snoc]; rfl)
          have HCC := Lib.hid ((HC.out.trans HC2.out.any).alloc (.cells #[.int .i64 (usualL l), .slice sa (cellsFrom (usualL l) 0 l).length sc] 27))
          obtain ⟨du, hdu⟩ : ∃ d, usualL l = d := ⟨_, rfl⟩
          obtain ⟨X, hX⟩ : ∃ X, cellsFrom (usualL l) 0 l = X := ⟨_, rfl⟩
          rw [hX, hdu] at HXI HTA HSN HCC
          rw [hX] at HXA HLL1
          rw [hX, hdu]
          clear hX hdu hlw HIN
          obtain ⟨RR, hRR⟩ : ∃ RR, (makeL (LL.take k)).1 = RR := ⟨_, rfl⟩
          obtain ⟨OO, hOO⟩ : ∃ OO, (makeL (LL.take k)).2 = OO := ⟨_, rfl⟩
          have HPE : Hid (makeL (LL.take k) = (RR, OO)) := Lib.hid (by rw [← hRR, ← hOO])
          rw [hRR, hOO] at HTA
          rw [hRR] at hR1
          rw [hOO] at hO1
          clear hRR hOO
          go_wp2_with fail
          refine (add_any (w.heap.size + 1) W RR OO v u du X sa sc _ HTA.out HXI.out HXA.out hR1 hO1 HLL1.out).mono ?_
          rintro e w3 ⟨v3, u3, rfl, ht3, hc3⟩
          have HT3 : Hid (TabSt cellE rowE (w.heap.size + 1) w3 W (makeL (LL.take (k + 1))).1 (makeL (LL.take (k + 1))).2 v3 u3) := Lib.hid (by rw [HSN.out, HPE.out]; exact ht3)
          have HC3 := Lib.hid (HCC.out.trans hc3)
          clear ht3 hc3 HTA HXI HXA
          go_wp2
          go_roundw
          case rel => exact ⟨k + 1, v3, u3, by omega, by go_num, HOK2.out, HT3.out, HC3.out⟩
          case measure => simp [intOf]; omega
        · have q1 : ((l.length : Int) != W) = true := by simpa using hlw
          have HMB := Lib.hid (HBADP.out (by unfold listOk; rw [hnv]; simpa using hlw))
          clear hlw
          obtain ⟨X, hX⟩ : ∃ X, cellsFrom (usualL l) 0 l = X := ⟨_, rfl⟩
          rw [hX] at *
          clear hX
          go_wp2
          obtain ⟨f0, f1, f2, f3⟩ := store3 (.int .i64 0) (.slice none 0 0) (.slice none 0 0) r0 r1 r2
          have f0 := ((Chg.refl (fun _ => False) _).alloc (.cells #[.int .i64 (usualL l), .slice sa X.length sc] 27)).cellS f0 (fun h => h)
          have f1 := ((Chg.refl (fun _ => False) _).alloc (.cells #[.int .i64 (usualL l), .slice sa X.length sc] 27)).cellS f1 (fun h => h)
          have f2 := ((Chg.refl (fun _ => False) _).alloc (.cells #[.int .i64 (usualL l), .slice sa X.length sc] 27)).cellS f2 (fun h => h)
          have h4 := ((((HCW.out.trans HC2.out).any (S := fun k => w.heap.size ≤ k)).trans (f3.mono (fun k _ e => by omega))).alloc (.cells #[.int .i64 (usualL l), .slice sa X.length sc] 27)).fresh
          clear f3
          generalize ((((w2.setCell ⟨w.heap.size, 0, none⟩ (.int .i64 0)).setCell ⟨w.heap.size, 1, none⟩ (.slice none 0 0)).setCell ⟨w.heap.size, 2, none⟩ (.slice none 0 0)).alloc (.cells #[.int .i64 (usualL l), .slice sa X.length sc] 27)) = WW at *
          exact bodyPost_ret (v := .tuple #[.agg #[.int .i64 0, .slice none 0 0, .slice none 0 0], .int .i64 1]) (by simp [results, Try.results18, go_sem, f0, f1, f2]) rfl (.inl ⟨HMB.out, rfl, h4⟩)
    · obtain rfl : k = LL.length := by omega
      have HOKF : Hid (makeOk W LL = true) := Lib.hid (by have := HOK.out; rwa [List.take_length] at this)
      have HTF : Hid (TabSt cellE rowE (w.heap.size + 1) wr W (makeL LL).1 (makeL LL).2 v u) := Lib.hid (by have := HT.out; rwa [List.take_length] at this)
      obtain ⟨va, vn, vc, rfl⟩ : ∃ a n c, v = .slice a n c := by obtain ⟨X, h1, _⟩ := HTF.out.rows; exact h1.shape3
      obtain ⟨ua, un, uc, rfl⟩ := HTF.out.of.shape3
      obtain ⟨-, -, rfl, rfl, hle1, hle2⟩ := HTF.out.final (Chg.refl _ _)
      clear HT HOK
      go_wp2_with fail
      obtain ⟨we, hwe⟩ : ∃ we, we = wr.drew := ⟨_, rfl⟩
      have HWE2 : Hid (wr.drew = we) := Lib.hid hwe.symm
      have HWF : Hid (Chg (fun _ => False) wr we) := Lib.hid (by rw [hwe]; exact (Chg.refl _ _).drew)
      have HTE := Lib.hid (HTF.out.same HWF.out)
      obtain ⟨⟨r0, r1, r2⟩, hz⟩ := HR0.out we (HC.out.trans HWF.out.any)
      have z0 := hz 0
      have z1 := hz 1
      have z2 := hz 2
      have HCE := Lib.hid ((HCW.out.trans HWF.out).any (S := fun k => w.heap.size ≤ k))
      have hbl : w.heap.size + 1 < we.heap.size := HTE.out.lt
      clear hwe hz
      refine wp_region_late (fun x => x = we) (fun i => decide (7 ≤ i)) (by kernel_rfl) ?_
      show wpAnyL _ _ _ _ _ _ 10 (Array.replicate 10 false) _ wr.drew
      rw [HWE2.out]
      have HSS : Hid (we = we) := Lib.hid rfl
      (refine late_read (i := 0) rfl (by kernel_rfl) (fun _ _ _ _ h => h) rfl HSS.out (fun K hK => ?_); apply Exists.intro; refine ⟨fun w' hC => ?_, ?_⟩; ((skip); go_simp; try with_reducible rfl); (try go_simp); refine hK _ ?_; clear hK K)
      (refine late_read (i := 1) rfl (by kernel_rfl) (fun _ _ _ _ h => h) rfl HSS.out (fun K hK => ?_); apply Exists.intro; refine ⟨fun w' hC => ?_, ?_⟩; ((subst hC; have q := HTE.out.c1); go_simp; try with_reducible rfl); (try go_simp); refine hK _ ?_; clear hK K)
      (refine late_read (i := 3) rfl (by kernel_rfl) (fun _ _ _ _ h => h) rfl HSS.out (fun K hK => ?_); apply Exists.intro; refine ⟨fun w' hC => ?_, ?_⟩; ((skip); go_simp; try with_reducible rfl); (try go_simp); refine hK _ ?_; clear hK K)
      (refine late_read (i := 4) rfl (by kernel_rfl) (fun _ _ _ _ h => h) rfl HSS.out (fun K hK => ?_); apply Exists.intro; refine ⟨fun w' hC => ?_, ?_⟩; ((subst hC; have q := HTE.out.c2); go_simp; try with_reducible rfl); (try go_simp); refine hK _ ?_; clear hK K)
      refine late_call (i := 2) (by kernel_rfl) rfl rfl 47 #[.slice va (makeL LL).1.length vc] (fun q w'' => q = .slice va (makeL LL).1.length (makeL LL).1.length ∧ we = w'') (by go_simp) ?_ ?_
      · refine (clipRow we va _ vc hle1).mono ?_
        rintro e w2 ⟨rfl, rfl⟩
        exact ⟨_, rfl, fun _ => rfl, rfl, rfl⟩
      rintro q w'' - ⟨rfl, rfl⟩ K hK
      (try go_simp)
      refine hK _ ?_
      clear hK K
      refine late_call (i := 5) (by kernel_rfl) rfl rfl 48 #[.slice ua (makeL LL).2.length uc] (fun q w'' => q = .slice ua (makeL LL).2.length (makeL LL).2.length ∧ we = w'') (by go_simp) ?_ ?_
      · refine (clipInt we ua _ uc hle2).mono ?_
        rintro e w2 ⟨rfl, rfl⟩
        exact ⟨_, rfl, fun _ => rfl, rfl, rfl⟩
      rintro q w'' - ⟨rfl, rfl⟩ K hK
      (try go_simp)
      refine hK _ ?_
      clear hK K
      (refine late_turn (i := 6) (by kernel_rfl) rfl rfl (fun K hK => ?_); apply Exists.intro; apply Exists.intro; refine ⟨?_, ?_, ?_⟩; ((skip); go_simp; try first | with_reducible rfl | exact ⟨rfl, rfl⟩); (exact fun _ => rfl); (try go_simp); refine hK _ _ ?_; clear hK K)
      have c1 := HTE.out.c1
      have y1 := HTE.out.z1
      have c0 := HTE.out.c0
      have s1 := setCellChg we (w.heap.size + 1) 1 (.slice va (makeL LL).1.length (makeL LL).1.length)
      have c2 : (we.setCell ⟨w.heap.size + 1, 1, none⟩ (.slice va (makeL LL).1.length (makeL LL).1.length)).cell? ⟨w.heap.size + 1, 2, none⟩ = some (.slice ua (makeL LL).2.length uc) := Chg.cellNe HTE.out.c2 (by intro e; injection e with _ e; cases e)
      have y2 : (we.setCell ⟨w.heap.size + 1, 1, none⟩ (.slice va (makeL LL).1.length (makeL LL).1.length)).frozen? ⟨w.heap.size + 1, 2, none⟩ = false := (World.frozen?_setCell _ _ _ _).trans HTE.out.z2
      (refine late_store (i := 7) (by kernel_rfl) rfl rfl (fun K hK => ?_); apply Exists.intro; refine ⟨?_, (fun h => absurd h (by decide)), ?_⟩; ((skip); go_simp; try first | with_reducible rfl | exact ⟨rfl, rfl⟩); (try go_simp); refine hK _ _ ?_; clear hK K)
      (refine late_turn (i := 8) (by kernel_rfl) rfl rfl (fun K hK => ?_); apply Exists.intro; apply Exists.intro; refine ⟨?_, ?_, ?_⟩; ((skip); go_simp; try first | with_reducible rfl | exact ⟨rfl, rfl⟩); (exact fun h => absurd h (by decide)); (try go_simp); refine hK _ _ ?_; clear hK K)
      (refine late_store (i := 9) (by kernel_rfl) rfl rfl (fun K hK => ?_); apply Exists.intro; refine ⟨?_, (fun h => absurd h (by decide)), ?_⟩; ((skip); go_simp; try first | with_reducible rfl | exact ⟨rfl, rfl⟩); (try go_simp); refine hK _ _ ?_; clear hK K)
      refine late_done (by kernel_rfl) ?_ _
      obtain ⟨wg, hwg⟩ : ∃ wg, wg = (we.setCell ⟨w.heap.size + 1, 1, none⟩ (.slice va (makeL LL).1.length (makeL LL).1.length)).setCell ⟨w.heap.size + 1, 2, none⟩ (.slice ua (makeL LL).2.length (makeL LL).2.length) := ⟨_, rfl⟩
      rw [← hwg]
      have s2 : Chg (fun k => k = w.heap.size + 1) we wg := by rw [hwg]; exact s1.trans (setCellChg _ _ _ _)
      have g0 : wg.cell? ⟨w.heap.size + 1, 0, none⟩ = some (.int .i64 W) := by rw [hwg]; exact Chg.cellNe (Chg.cellNe c0 (by intro e; injection e with _ e; cases e)) (by intro e; injection e with _ e; cases e)
      have g1 : wg.cell? ⟨w.heap.size + 1, 1, none⟩ = some (.slice va (makeL LL).1.length (makeL LL).1.length) := by rw [hwg]; exact Chg.cellNe (World.cell?_setCell_same _ _ _ c1) (by intro e; injection e with _ e; cases e)
      have g2 : wg.cell? ⟨w.heap.size + 1, 2, none⟩ = some (.slice ua (makeL LL).2.length (makeL LL).2.length) := by rw [hwg]; exact World.cell?_setCell_same _ _ _ c2
      have hne : ¬ w.heap.size = w.heap.size + 1 := by omega
      have r0 := s2.cellS r0 hne
      have r1 := s2.cellS r1 hne
      have r2 := s2.cellS r2 hne
      have z0 := (s2.frozen (p := ⟨w.heap.size, 0, none⟩) (by show w.heap.size < _; omega) hne).trans z0
      have z1 := (s2.frozen (p := ⟨w.heap.size, 1, none⟩) (by show w.heap.size < _; omega) hne).trans z1
      have z2 := (s2.frozen (p := ⟨w.heap.size, 2, none⟩) (by show w.heap.size < _; omega) hne).trans z2
      have HS2 := Lib.hid s2
      clear hwg s2 s1 c0 c1 c2 y1 y2
      go_wp2
      obtain ⟨f0, f1, f2, f3⟩ := store3 (.int .i64 W) (.slice va (makeL LL).1.length (makeL LL).1.length) (.slice ua (makeL LL).2.length (makeL LL).2.length) r0 r1 r2
      have h3 := (HS2.out.mono (T := fun k => k ≤ w.heap.size + 1) (fun k _ e => by omega)).trans (f3.mono (fun k _ e => by omega))
      obtain ⟨h4, h5, -⟩ := HTE.out.final h3
      have h6 := (HCE.out.trans (HS2.out.mono (fun k _ e => by omega))).trans (f3.mono (fun k _ e => by omega))
      clear f3 h3
      generalize ((wg.setCell ⟨w.heap.size, 0, none⟩ (.int .i64 W)).setCell ⟨w.heap.size, 1, none⟩ (.slice va (makeL LL).1.length (makeL LL).1.length)).setCell ⟨w.heap.size, 2, none⟩ (.slice ua (makeL LL).2.length (makeL LL).2.length) = WW at *
      exact bodyPost_ret (v := .tuple #[.agg #[.int .i64 W, .slice va (makeL LL).1.length (makeL LL).1.length, .slice ua (makeL LL).2.length (makeL LL).2.length], .int .i64 0]) (by simp [results, Try.results18, go_sem, f0, f1, f2]) rfl (.inr ⟨HOKF.out, va, ua, rfl, h4.lower (by omega), h5.lower (by omega), h6.fresh⟩)
end Go.Proofs.Ytkfakkonlnjckaa
