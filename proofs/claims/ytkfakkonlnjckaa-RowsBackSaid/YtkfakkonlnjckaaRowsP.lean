/- A table's numbers and bytes; the function within Put that lays a number's bytes behind what is there. -/
import Derived.Test.YtkfakkonlnjckaaConcatG
import Derived.Test.YtkfakkonlnjckaaRowsM
import Derived.Test.YtkfakkonlnjckaaLate
import Derived.Test.YtkfakkonlnjckaaInts
namespace Go.Proofs.Ytkfakkonlnjckaa
open Go.RowKit

def cellsPut : Int → List (Int × Int) → List Int
  | _, [] => []
  | last, c :: l => (c.1 - last) :: (c.2 + 1) :: cellsPut c.1 l
def lastOf (last : Int) (l : List (Int × Int)) : Int := l.foldl (fun _ c => c.1) last
theorem lastOf_snoc (last : Int) (l : List (Int × Int)) (c : Int × Int) : lastOf last (l ++ [c]) = c.1 := by simp [lastOf]
theorem cellsPut_snoc : ∀ (l : List (Int × Int)) (last : Int) (c : Int × Int), cellsPut last (l ++ [c]) = cellsPut last l ++ [c.1 - lastOf last l, c.2 + 1]
  | [], last, c => rfl
  | x :: l, last, c => by
    have := cellsPut_snoc l x.1 c
    simp only [List.cons_append, cellsPut, this]
    rfl
def rowPut (r : RowD) : List Int := (r.1 + 1) :: (r.2.length : Int) :: cellsPut 0 r.2
def tabNums : TabD → List Int
  | (W, R, O) => W :: (R.length : Int) :: (R.flatMap rowPut ++ (O.length : Int) :: O)
def bytesOf (L : List Int) : List Int := L.flatMap (fun n => putL n.toNat)
def putTab (t : TabD) : List Int := bytesOf (tabNums t)
theorem bytesOf_append (X Y : List Int) : bytesOf (X ++ Y) = bytesOf X ++ bytesOf Y := by simp [bytesOf]
theorem bytesOf_snoc (X : List Int) (z : Int) : bytesOf (X ++ [z]) = bytesOf X ++ putL z.toNat := by simp [bytesOf]
theorem bytesOf_byte (X : List Int) : ∀ a ∈ bytesOf X, Byte a := fun a ha => by
  obtain ⟨n, _, h⟩ := List.mem_flatMap.1 ha
  exact putL_byte _ a h
theorem bytesOf_len (X : List Int) (h : ∀ n ∈ X, 0 ≤ n ∧ n < 4294967296) : (bytesOf X).length ≤ 5 * X.length := by
  induction X with
  | nil => simp [bytesOf]
  | cons x X ih =>
    have h1 := ih (fun n hn => h n (by simp [hn]))
    have h2 := h x (by simp)
    have h3 : bytesOf (x :: X) = putL x.toNat ++ bytesOf X := by simp [bytesOf]
    have h4 := putL_len5 (n := x.toNat) (by omega)
    rw [h3, List.length_append, List.length_cons]
    omega
theorem bytesOf_pos {X : List Int} (h : X ≠ []) : 0 < (bytesOf X).length := by
  cases X with
  | nil => exact absurd rfl h
  | cons x X =>
    have h3 : bytesOf (x :: X) = putL x.toNat ++ bytesOf X := by simp [bytesOf]
    rw [h3, List.length_append]
    have := putL_pos x.toNat
    omega

/-- A variable that holds a list of bytes of one's own. -/
structure Fld8 (br : Nat) (w : World) (v : Value) (X : List Int) : Prop where
  c : w.cell? ⟨br, 0, none⟩ = some v
  z : w.frozen? ⟨br, 0, none⟩ = false
  own : Own w (br + 1) v X
theorem Fld8.lt {br : Nat} {w : World} {v : Value} {X : List Int} (h : Fld8 br w v X) : br < w.heap.size := World.block_lt_of_cell? _ _ h.c
theorem Fld8.chg {S : Nat → Prop} {br : Nat} {w w' : World} {v : Value} {X : List Int} (h : Fld8 br w v X) (hc : Chg S w w') (hs : ∀ g, br ≤ g → g < w.heap.size → ¬ S g) : Fld8 br w' v X :=
  ⟨hc.cellS h.c (hs br (Nat.le_refl _) h.lt), (hc.frozen (p := ⟨br, 0, none⟩) h.lt (hs br (Nat.le_refl _) h.lt)).trans h.z, h.own.chg hc (fun g hg => hs g (by omega))⟩
theorem Fld8.step {br : Nat} {w w1 : World} {v v' : Value} {X X' : List Int} (h : Fld8 br w v X) (ho : Own w1 (br + 1) v' X') (hc : Chg (fun k => br + 1 ≤ k) w w1) :
    (w1.cell? ⟨br, 0, none⟩ = some v ∧ w1.frozen? ⟨br, 0, none⟩ = false) ∧ Fld8 br (w1.setCell ⟨br, 0, none⟩ v') v' X' ∧ Chg (fun k => br ≤ k) w (w1.setCell ⟨br, 0, none⟩ v') := by
  have hlt := h.lt
  have c1 := hc.cellS h.c (by show ¬ br + 1 ≤ br; omega)
  have z1 := (hc.frozen (p := ⟨br, 0, none⟩) hlt (by show ¬ br + 1 ≤ br; omega)).trans h.z
  exact ⟨⟨c1, z1⟩, ⟨World.cell?_setCell_same _ _ _ c1, (World.frozen?_setCell _ _ _ _).trans z1, ho.chg (setCellChg _ _ _ _) (fun g hg _ e => by omega)⟩, (hc.mono (fun k _ e => by omega)).trans ((setCellChg w1 br 0 v').mono (fun k _ e => by omega))⟩
theorem ownBlk {w : World} {B : Nat} {v : Value} {X : List Int} (h : Own w B v X) {g : Nat} (hg : v.ownBlock = some g) : B ≤ g ∧ g < w.heap.size := Elt.Own.blk (byteOwn.2 h) hg
theorem Own.shape3 {w : World} {B : Nat} {v : Value} {X : List Int} (h : Own w B v X) : ∃ a n c, v = .slice a n c := by
  obtain ⟨a, c, h⟩ := h.shape
  exact ⟨a, _, c, h⟩

set_option maxRecDepth 100000 in
set_option maxHeartbeats 2000000 in
theorem putFn_any (z : Int) (bo : Nat) (v : Value) (X : List Int) (w : World) (h : Fld8 bo w v X) (hz : 0 ≤ z ∧ z < 4294967296) (hl : X.length ≤ 1000000000) :
    Calls Try.prog 50 #[.int .i64 z, .pointer (some ⟨bo, 0, none⟩)] w fun e w' => ∃ v', e = .returned (.tuple #[]) ∧ Fld8 bo w' v' (X ++ putL z.toNat) ∧ Chg (fun k => k = bo ∨ v.ownBlock = some k) w w' ∧ (∀ g, v'.ownBlock = some g → v.ownBlock = some g ∨ w.heap.size ≤ g) := by
  obtain ⟨n, rfl⟩ := Int.eq_ofNat_of_zero_le hz.1
  have hn : n < 4294967296 := by omega
  rw [Int.toNat_natCast]
  clear hz
  have HF := Lib.hid h
  have hbl := h.lt
  obtain ⟨va, vl, vc, rfl⟩ := h.own.shape3
  obtain ⟨wd, hwd⟩ : ∃ wd, wd = w.drew := ⟨_, rfl⟩
  have HWD : Hid (Chg (fun _ => False) w wd) := Lib.hid (by rw [hwd]; exact (Chg.refl _ _).drew)
  have HWE : Hid (w.drew = wd) := Lib.hid hwd.symm
  have HFD := Lib.hid (HF.out.chg HWD.out (fun _ _ _ h => h))
  have hw5 : IntKind.u32.wrap (n : Int) = n := by rw [IntKind.wrap_u32]; omega
  clear h hwd
  go_enter Try.func50, Try.ntmps50
  refine wp_region_late (fun x => Chg (fun j => bo + 1 ≤ j) wd x) (fun i => decide (i = 5)) (by kernel_rfl) ?_
  show wpAnyL _ _ _ _ _ _ 6 (Array.replicate 6 false) _ w.drew
  rw [HWE.out]
  have HSS : Hid (Chg (fun j => bo + 1 ≤ j) wd wd) := Lib.hid (Chg.refl _ _)
  (refine late_read (i := 0) rfl (by kernel_rfl) (fun _ _ _ _ h => h) rfl HSS.out (fun K hK => ?_); apply Exists.intro; refine ⟨fun w' hC => ?_, ?_⟩; ((have q := hC.cellS HFD.out.c (show ¬ bo + 1 ≤ bo by omega)); go_simp; try with_reducible rfl); (try go_simp); refine hK _ ?_; clear hK K)
  (refine late_read (i := 1) rfl (by kernel_rfl) (fun _ _ _ _ h => h) rfl HSS.out (fun K hK => ?_); apply Exists.intro; refine ⟨fun w' hC => ?_, ?_⟩; ((skip); go_simp; try with_reducible rfl); (try go_simp); refine hK _ ?_; clear hK K)
  (refine late_read (i := 2) rfl (by kernel_rfl) (fun _ _ _ _ h => h) rfl HSS.out (fun K hK => ?_); apply Exists.intro; refine ⟨fun w' hC => ?_, ?_⟩; ((skip); go_simp; try with_reducible rfl); (try go_simp); refine hK _ ?_; clear hK K)
  refine late_call (i := 3) (by kernel_rfl) rfl rfl 51 #[.slice none 0 0, .int .u32 n] (fun u w'' => ∃ h, u = .slice (some ⟨h, 0, none⟩) ([] ++ putL n).length ([] ++ putL n).length ∧ Row w'' h ([] ++ putL n) ∧ Chg (fun _ => False) wd w'') (by go_simp) ?_ ?_
  · refine (put_any [] n none 0 0 0 wd ⟨fun k a hk => by simp at hk, fun h => (h rfl).elim⟩ (fun h => by simp at h) (by simp) hn).mono ?_
    rintro e w2 ⟨h, rfl, _, h2, h3⟩
    exact ⟨_, rfl, fun _ => h3.any, h, rfl, h2, h3⟩
  rintro u w2 hs2 ⟨h, rfl, hr, hc⟩ K hK
  have HSS := Lib.hid (hs2 (by decide))
  have HF2 := Lib.hid (HFD.out.chg hc (fun _ _ _ h => h))
  have HR := Lib.hid hr
  have HC := Lib.hid hc
  rw [List.nil_append] at HR ⊢
  obtain ⟨PL, hPL⟩ : ∃ PL, (putL n).length = PL := ⟨_, rfl⟩
  have HPL := Lib.hid hPL
  rw [hPL]
  clear hs2 hr hc hPL
  (try go_simp)
  refine hK _ ?_
  clear hK K
  refine late_append (i := 4) (by kernel_rfl) rfl rfl (.tmp 3) (.tmp 6) 55 55 rfl (.slice va vl vc) (.slice (some ⟨h, 0, none⟩) PL PL) rfl rfl (fun v' w1 => Own w1 (bo + 1) v' (X ++ putL n) ∧ Chg (fun j => bo + 1 ≤ j) w2 w1 ∧ Chg (fun k => (Value.slice va vl vc).ownBlock = some k) w2 w1 ∧ (v'.ownBlock = (Value.slice va vl vc).ownBlock ∨ v'.ownBlock = some w2.heap.size)) ?_ ?_
  · have hsrc := srcBytes (c := PL) (HR.out.bytes (List.prefix_refl _)) (fun _ => rfl)
    rw [HPL.out] at hsrc
    have h5 := putL_len5 hn
    obtain ⟨v', w1, hrun, h1, h2, ⟨h3, h4⟩, -⟩ := (byteOwn.2 HF2.out.own).append (by have := HF2.out.lt; omega) 55 (.slice (some ⟨h, 0, none⟩) PL PL) (putL n) (by rw [HPL.out, byteEncs]; exact hsrc) (putL_byte n) (by omega) 55
    exact ⟨v', w1, hrun, fun _ => HSS.out.trans h2, byteOwn.1 h1, h2, h3, h4⟩
  rintro v' w1 hs ⟨h1, h2, h3, h4⟩ K hK
  obtain ⟨va', vl', vc', hv'⟩ := h1.shape3
  subst hv'
  obtain ⟨⟨k1, k2⟩, hf1, hf2⟩ := HF2.out.step h1 h2
  have HFF := Lib.hid hf1
  have HCF : Hid (Chg (fun k => k = bo ∨ (Value.slice va vl vc).ownBlock = some k) w (w1.setCell ⟨bo, 0, none⟩ (.slice va' vl' vc'))) := Lib.hid (((HWD.out.any.trans HC.out.any).trans (h3.mono (fun k _ e => .inr e))).trans ((setCellChg w1 bo 0 _).mono (fun k _ e => .inl e)))
  have HBK : Hid (∀ g, (Value.slice va' vl' vc').ownBlock = some g → (Value.slice va vl vc).ownBlock = some g ∨ w.heap.size ≤ g) := Lib.hid (fun g hg => by
    rcases h4 with h4 | h4
    · rw [h4] at hg; exact .inl hg
    · rw [h4] at hg
      obtain rfl := Option.some.inj hg
      exact .inr (HWD.out.trans HC.out).size)
  clear hf1 hf2 h1 h2 h3 h4 hs
  (try go_simp)
  refine hK _ ?_
  clear hK K
  (refine late_store (i := 5) (by kernel_rfl) rfl rfl (fun K hK => ?_); apply Exists.intro; refine ⟨?_, (fun h => absurd h (by decide)), ?_⟩; ((skip); go_simp; try first | with_reducible rfl | exact ⟨rfl, rfl⟩); (try go_simp); refine hK _ _ ?_; clear hK K)
  refine late_done (by kernel_rfl) ?_ _
  go_wp2
  go_end0
  exact ⟨_, rfl, HFF.out, HCF.out, HBK.out⟩
end Go.Proofs.Ytkfakkonlnjckaa
