/- Numbers counted in a map; the map gone through: rows.usual. -/
import Derived.Test.YtkfakkonlnjckaaRowsL
import Derived.Test.YtkfakkonlnjckaaTwinsI
import Derived.Maps.RangeWalk
import Derived.Maps.OwnOps
namespace Go.Proofs.Ytkfakkonlnjckaa
open Go.RowKit

/-- The map tells how often each stands. -/
structure Counts (D : DataW Unit) (L : List Int) : Prop where
  isMap : Maps.IsMap D
  at' : ∀ x : Int, D.atKey (.int .i64 x) (.lit (.int .i64 0)) = .lit (.int .i64 (L.count x))
  has : ∀ x : Int, Maps.has D (.int .i64 x) = decide (x ∈ L)
theorem Counts.start : Counts (.map []) [] := ⟨Maps.isMap_empty, fun _ => rfl, fun _ => rfl⟩
theorem Counts.step {D : DataW Unit} {L : List Int} (h : Counts D L) (x : Int) : Counts (D.put (.int .i64 x) (.lit (.int .i64 ((L.count x : Int) + 1)))) (L ++ [x]) := by
  refine ⟨h.isMap.put _ _, fun y => ?_, fun y => ?_⟩
  · by_cases he : y = x
    · subst he
      rw [Maps.atKey_put_same h.isMap (by trivial)]
      simp
    · rw [Maps.atKey_put_other (by intro e; injection e with _ e; exact he e), h.at']
      simp [List.count_append, Ne.symm he]
  · by_cases he : y = x
    · subst he
      rw [Maps.has_put_same h.isMap (by trivial)]
      simp
    · rw [Maps.has_put_other (by intro e; injection e with _ e; exact he e), h.has]
      simp [he]

theorem lawI : Maps.Keyed Try.prog 3 := Maps.int_keyed Try.underlying3
theorem zeroI (w : World) : (zeroValue 3).run Try.prog w = .ok (.int .i64 0) w := by kernel_rfl
theorem wfI {x : Int} (h0 : -9223372036854775808 ≤ x) (h1 : x ≤ 9223372036854775807) : (Lit.int .i64 x).wf = true := by
  simp [Lit.wf, IntKind.min, IntKind.max, IntKind.signed, IntKind.bits]
  omega

/-- What has been gone through so far. -/
def BestOf (L : List Int) (left : Lit → Bool) (b t : Int) : Prop :=
  ((b = -1 ∧ t = 0 ∧ ∀ x ∈ L, left (.int .i64 x) = true) ∨ (b ∈ L ∧ t = L.count b)) ∧ ∀ x ∈ L, left (.int .i64 x) = false → (L.count x : Int) < t ∨ ((L.count x : Int) = t ∧ b ≤ x)
theorem BestOf.done {L : List Int} {left : Lit → Bool} {b t : Int} (h : BestOf L left b t) (hl : ∀ kl, left kl = false) : b = usualL L := by
  refine Usual.unique (L := L) ?_ (usual_usualL L)
  obtain ⟨h1, h2⟩ := h
  rcases h1 with ⟨rfl, rfl, h3⟩ | ⟨h1, rfl⟩
  · refine .inl ⟨?_, rfl⟩
    cases L with
    | nil => rfl
    | cons x L => have := h3 x (by simp); rw [hl] at this; cases this
  · refine .inr ⟨h1, fun n hn => ?_⟩
    have := h2 n hn (hl _)
    omega
theorem BestOf.next {L : List Int} {left : Lit → Bool} {b t x : Int} (h : BestOf L left b t) (hx : x ∈ L) (b' t' : Int) (hb : (b' = x ∧ t' = L.count x ∧ (t < L.count x ∨ (L.count x = t ∧ x < b))) ∨ (b' = b ∧ t' = t ∧ ((L.count x : Int) < t ∨ ((L.count x : Int) = t ∧ b ≤ x)))) :
    BestOf L (fun z => left z && !z.sameKey (.int .i64 x)) b' t' := by
  obtain ⟨h1, h2⟩ := h
  have hpos : 0 < L.count x := List.count_pos_iff.2 hx
  have hstay : ∀ y : Int, (left (.int .i64 y) && !(Lit.int .i64 y).sameKey (.int .i64 x)) = false → y ≠ x → left (.int .i64 y) = false := fun y hy hne => by
    rw [Maps.sameKey_ne (by intro e; injection e with _ e; exact hne e)] at hy
    simpa using hy
  rcases hb with ⟨rfl, rfl, hb⟩ | ⟨rfl, rfl, hb⟩
  · refine ⟨.inr ⟨hx, rfl⟩, fun y hy hl => ?_⟩
    by_cases he : y = b'
    · subst he; omega
    · have h3 := h2 y hy (hstay y hl he)
      rcases h1 with ⟨rfl, rfl, h4⟩ | ⟨h4, rfl⟩ <;> omega
  · refine ⟨?_, fun y hy hl => ?_⟩
    · rcases h1 with ⟨rfl, rfl, h4⟩ | h4
      · omega
      · exact .inr h4
    · by_cases he : y = x
      · subst he; exact hb
      · exact h2 y hy (hstay y hl he)

set_option maxRecDepth 100000 in
set_option maxHeartbeats 2000000 in
theorem usual_any (Z : List Int) (a : Option Addr) (g o c : Nat) (w : World) (hz : I.BytesAt w g o Z) (ha : 0 < Z.length → a = some ⟨g, o, none⟩) (hl : Z.length ≤ 1000000000) :
    Calls Try.prog 41 #[.slice a Z.length c] w fun e w' => e = .returned (.int .i64 (usualL Z)) ∧ Chg (fun _ => False) w w' := by
  have hmm := @run_makeMap Try.prog
  have HZ := Lib.hid hz
  have HA := Lib.hid ha
  clear hz ha
  go_enter Try.func41, Try.ntmps41
  go_wp2
  go_loopw [13] (fun i wr => ∃ (k : Nat) (D : DataW Unit), k ≤ Z.length ∧ i = .int .i64 k ∧ wr.ownsMap Try.prog 3 (plainElem Try.prog 3) w.heap.size k D ∧ Counts D (Z.take k) ∧ Chg (fun k => w.heap.size ≤ k) w wr) (fun i _ => Z.length - (intOf i).toNat)
  case atStart => exact ⟨0, _, Nat.zero_le _, rfl, World.ownsMap_made _ _ _ _, Counts.start, (Chg.refl _ _).alloc _⟩
  case round =>
    obtain ⟨k, D, hk, rfl, hown, hcnt, hc⟩ := hrel
    have HOWN := Lib.hid hown
    have HCNT := Lib.hid hcnt
    have HC := Lib.hid hc
    clear hown hcnt hc
    by_cases hkl : k < Z.length
    · have b14 : decide ((k : Int) < (Z.length : Int)) = true := by simp; omega
      obtain ⟨z, hz, c1, z0, z1⟩ := (HZ.out.chg HC.out.fresh (fun _ h => h)).get hkl
      have e1 := HA.out (by omega)
      subst e1
      have HZK := Lib.hid hz
      have hle : (Z.take k).count z ≤ k := Nat.le_trans List.count_le_length (List.length_take_le _ _)
      clear hz
      go_wp2_with (first
        | (at_lookup; refine wpList_lookup_own_int _ rfl _ _ 116 rfl 3 3 .i64 lawI Try.underlying116 Try.underlying3 (zeroI _) w.heap.size k _ rfl HOWN.out _ _ rfl (Maps.keyOf_int_mk Try.underlying3 (wfI z0 z1)) ?_; intro c hat hwc; rw [HCNT.out.at'] at hat; injection hat with hat; injection hat with _ hat; subst hat; clear hwc)
        | (at_mapUpdate; refine wpList_mapUpdate_own _ rfl _ _ _ 116 rfl 3 3 lawI Try.underlying116 _ w.heap.size k _ rfl HOWN.out (by unfold maxLen; omega) _ _ _ rfl rfl (Maps.keyOf_int_mk Try.underlying3 (wfI z0 z1)) _ [] (plainElem_int Try.underlying3 (wfI (by omega) (by omega))) ?_; intro w1 hown1 hgrow1)
        | fail)
      have HF : Hid (w1.ownsMap Try.prog 3 (plainElem Try.prog 3) w.heap.size (k + 1) (D.put (.int .i64 z) (.lit (.int .i64 (((Z.take k).count z : Int) + 1)))) ∧ Counts (D.put (.int .i64 z) (.lit (.int .i64 (((Z.take k).count z : Int) + 1)))) (Z.take (k + 1)) ∧ Chg (fun k => w.heap.size ≤ k) w w1) := Lib.hid ⟨hown1, by rw [List.take_add_one, HZK.out]; exact HCNT.out.step z, HC.out.grown hgrow1 (fun j hj => by cases hj; exact .inl (Nat.le_refl _))⟩
      clear hown1 hgrow1
      go_roundw
      case rel => exact ⟨k + 1, _, by omega, by go_num, HF.out⟩
      case measure => simp [intOf]; omega
    · obtain rfl : k = Z.length := by omega
      have HCN : Hid (Counts D Z) := Lib.hid (by have := HCNT.out; rwa [List.take_length] at this)
      have HCLE : Hid (∀ x, (Z.count x : Int) ≤ 1000000000) := Lib.hid (fun x => by have := List.count_le_length (a := x) (l := Z); omega)
      clear HCNT
      go_wp2_with (first
        | (at_range; refine wpList_range_own _ rfl _ 116 rfl 3 3 lawI Try.underlying116 _ w.heap.size Z.length _ rfl HOWN.out ?_; intro w0 hrg0 hg0 hs0)
        | fail)
      go_frame
      have HRG := Lib.hid hrg0
      have HC0 := Lib.hid (HC.out.grown hg0 (fun j hj => by cases hj))
      obtain ⟨wo, rfl⟩ : ∃ wo : World, wo = wr := ⟨_, rfl⟩
      have hsz : w.heap.size ≤ wo.heap.size := HC.out.size
      clear hrg0 hg0 hs0 HOWN HC
      go_loopw [6, 7] (fun bv tv wr => ∃ (left : Lit → Bool) (cnt : Nat) (b t : Int), bv = .int .i64 b ∧ tv = .int .i64 t ∧ (-9223372036854775808 ≤ b ∧ b ≤ 9223372036854775807 ∧ 0 ≤ t ∧ t ≤ 1000000000) ∧ wr.ranges Try.prog 3 (plainElem Try.prog 3) w.heap.size wo.heap.size Z.length D left cnt ∧ BestOf Z left b t ∧ (∀ x, left (.int .i64 x) = true → x ∈ Z) ∧ Chg (fun k => w.heap.size ≤ k) w wr)
        (fun _ _ wr => wr.rangeLeft w.heap.size wo.heap.size)
      case atStart => exact ⟨_, _, -1, 0, rfl, rfl, by omega, HRG.out, ⟨.inl ⟨rfl, rfl, fun x hx => by rw [HCN.out.has]; simpa using hx⟩, fun x hx h => by rw [HCN.out.has] at h; simp [hx] at h⟩, fun x h => by rw [HCN.out.has] at h; simpa using h, HC0.out⟩
      case round =>
        clear HRG HC0
        obtain ⟨left, cnt, b, t, rfl, rfl, ⟨b0, b1, t0, t1⟩, hrg, hbest, hin, hc⟩ := hrel
        have HRG := Lib.hid hrg
        have HB := Lib.hid hbest
        have HIN := Lib.hid hin
        have HC := Lib.hid hc
        clear hrg hbest hin hc
        go_wp2_with (first
          | (at_next; refine wpList_next_ranges_ii _ rfl _ rfl 3 3 .i64 .i64 lawI Try.underlying3 Try.underlying3 w.heap.size wo.heap.size Z.length _ _ _ rfl HRG.out ?_ ?_)
          | fail)
        · intro _ hl0
          have HE := Lib.hid (HB.out.done hl0)
          clear hl0 HB
          go_wp2
          go_ret
          exact ⟨by rw [HE.out]; rfl, HC.out.fresh⟩
        · intro x c w1 cnt1 hwx hwc hlx hat hrg1 hlt hg1 hs1 hen
          have hxZ := HIN.out x hlx
          have hcc : c = (Z.count x : Int) := by
            have := hat (.lit (.int .i64 0))
            rw [HCN.out.at'] at this
            injection this with this
            injection this with _ this
            exact this.symm
          have hxb : -9223372036854775808 ≤ x ∧ x ≤ 9223372036854775807 := by
            have := HZ.out.byte x hxZ
            exact this
          have hcb : 0 ≤ c ∧ c ≤ 1000000000 := by
            have := HCLE.out x
            omega
          obtain ⟨xb0, xb1⟩ := hxb
          obtain ⟨cb0, cb1⟩ := hcb
          have HCC := Lib.hid hcc
          have HXZ := Lib.hid hxZ
          have HRG1 := Lib.hid hrg1
          have HLT := Lib.hid hlt
          have HC1 := Lib.hid (HC.out.grown hg1 (fun j hj => by cases hj; exact .inl hsz))
          have HIN1 : Hid (∀ y, (left (.int .i64 y) && !(Lit.int .i64 y).sameKey (.int .i64 x)) = true → y ∈ Z) := Lib.hid (fun y hy => by simp at hy; exact HIN.out y hy.1)
          clear hwx hwc hlx hat hrg1 hlt hg1 hs1 hcc hxZ HIN HC
          by_cases h1 : t < c
          · have d1 : decide (t < c) = true := by simpa using h1
            have HBN := Lib.hid (HB.out.next HXZ.out x c (.inl ⟨rfl, HCC.out, .inl (by have := HCC.out; omega)⟩))
            clear HB
            go_wp2
            go_roundw
            case rel => exact ⟨_, cnt1, x, c, rfl, rfl, by omega, HRG1.out, HBN.out, HIN1.out, HC1.out⟩
            case measure => rw [HRG1.out.left_eq, HRG.out.left_eq]; exact HLT.out
          · by_cases h2 : c = t
            · subst h2
              have d1 : decide (c < c) = false := by simp
              by_cases h3 : x < b
              · have d3 : decide (x < b) = true := by simpa using h3
                have HBN := Lib.hid (HB.out.next HXZ.out x c (.inl ⟨rfl, HCC.out, .inr ⟨by have := HCC.out; omega, h3⟩⟩))
                clear HB
                go_wp2
                go_roundw
                case rel => exact ⟨_, cnt1, x, c, rfl, rfl, by omega, HRG1.out, HBN.out, HIN1.out, HC1.out⟩
                case measure => rw [HRG1.out.left_eq, HRG.out.left_eq]; exact HLT.out
              · have d3 : decide (x < b) = false := by simpa using h3
                have HBN := Lib.hid (HB.out.next HXZ.out b c (.inr ⟨rfl, rfl, .inr ⟨by have := HCC.out; omega, by omega⟩⟩))
                clear HB
                go_wp2
                go_roundw
                case rel => exact ⟨_, cnt1, b, c, rfl, rfl, by omega, HRG1.out, HBN.out, HIN1.out, HC1.out⟩
                case measure => rw [HRG1.out.left_eq, HRG.out.left_eq]; exact HLT.out
            · have d1 : decide (t < c) = false := by simpa using h1
              have d2 : (c == t) = false := by simpa using h2
              have HBN := Lib.hid (HB.out.next HXZ.out b t (.inr ⟨rfl, rfl, .inl (by have := HCC.out; omega)⟩))
              clear HB
              go_wp2
              go_roundw
              case rel => exact ⟨_, cnt1, b, t, rfl, rfl, by omega, HRG1.out, HBN.out, HIN1.out, HC1.out⟩
              case measure => rw [HRG1.out.left_eq, HRG.out.left_eq]; exact HLT.out
end Go.Proofs.Ytkfakkonlnjckaa
