/- 'OctetsSum': its walk. -/
import Derived.Test.YtnfniilimgfjoaaSumW
namespace Go.Proofs.Ytnfniilimgfjoaa
open Go.RowKit

theorem own_bytes {w : World} {B : Nat} {v : Value} {X : List Int} (h : Own w B v X) : ∃ a g c, v = .slice a X.length c ∧ BytesAt w g 0 X ∧ (0 < X.length → a = some ⟨g, 0, none⟩) ∧ (X ≠ [] → B ≤ g) := by
  rcases h with ⟨rfl, rfl⟩ | ⟨g, C, rfl, hg, hR, hp, _⟩
  · exact ⟨none, 0, 0, rfl, ⟨fun k a hk => by simp at hk, fun h => (h rfl).elim⟩, (fun h => by simp at h), fun h => (h rfl).elim⟩
  · exact ⟨_, g, _, rfl, hR.bytes hp, fun _ => rfl, fun _ => hg⟩
theorem fresh_bytes {w0 w : World} {v : Value} {X : List Int} {pg : Option Nat} (h : Fresh w0 w v X pg) : ∃ a g, v = .slice a X.length X.length ∧ BytesAt w g 0 X ∧ (0 < X.length → a = some ⟨g, 0, none⟩) := by
  cases pg with
  | none =>
    have := h.nil rfl
    subst this
    exact ⟨_, 0, h.val, ⟨fun k a hk => by simp at hk, fun h => (h rfl).elim⟩, fun h => by simp at h⟩
  | some g =>
    obtain ⟨h1, h2⟩ := h.own g rfl
    exact ⟨_, g, h.val, h2.bytes (List.prefix_refl _), fun _ => rfl⟩

theorem three_ptr (w : World) (x y z : Value) (e : TypeId) : (w.alloc (.cells #[x, y, z] e)).cell? ⟨w.heap.size, 0, none⟩ = some x ∧ (w.alloc (.cells #[x, y, z] e)).cell? ⟨w.heap.size, 1, none⟩ = some y ∧ (w.alloc (.cells #[x, y, z] e)).cell? ⟨w.heap.size, 2, none⟩ = some z := by
  refine ⟨?_, ?_, ?_⟩ <;> · rw [World.cell?_alloc_new]; rfl

theorem cell_lt {w : World} {b o : Nat} {v : Value} (h : w.cell? ⟨b, o, none⟩ = some v) : b < w.heap.size := by
  rcases Nat.lt_or_ge b w.heap.size with h1 | h1
  · exact h1
  · simp [World.cell?, Array.getElem?_eq_none h1] at h
theorem page_fresh {w0 w : World} {v : Value} {X : List Int} {pg : Option Nat} (h : Fresh w0 w v X pg) (hl : X.length ≤ 1000000000000) {m : Int} (hmb : Byte m) : PageSt w ⟨pg, X.length, X.length, m, behindOf m⟩ 0 :=
  ⟨Nat.le_refl _, (fun e => by have := h.nil e; simp [this]), hl, hmb, behindOf_byte m, fun g' hg => ⟨X, (h.own g' hg).2, rfl, fun e => absurd e (by omega), fun e => absurd e (by omega)⟩⟩
theorem Fresh.chg {S : Nat → Prop} {w0 w w' : World} {v : Value} {X : List Int} {pg : Option Nat} (h : Fresh w0 w v X pg) (hc : Chg S w w') (hs : ∀ g, w0.heap.size ≤ g → g < w.heap.size → ¬ S g) : Fresh w0 w' v X pg :=
  ⟨h.val, fun g hg => ⟨(h.own g hg).1, (h.own g hg).2.chg hc (hs g (h.own g hg).1 (h.own g hg).2.lt)⟩, h.nil⟩
theorem apart3x {p q r : Pg} {a b : Nat} (hp : p.g = some a) (hq : q.g = some b) (h1 : a ≠ b) (h2 : ∀ c, r.g = some c → b ≠ c) (h3 : ∀ c, r.g = some c → a ≠ c) : ApartL [p, q, r] := by
  intro i j x y hx hy hij g hg
  have h2' := h2 g
  have h3' := h3 g
  rcases i with _ | _ | _ | i <;> rcases j with _ | _ | _ | j <;> simp at hx hy <;> first | (exact absurd rfl hij) | (subst hx; subst hy; simp_all; try omega)

set_option maxRecDepth 100000 in
set_option maxHeartbeats 4000000 in
theorem sum_any (Z : List Int) (a : Option Addr) (g o cap : Nat) (w : World) (hz : BytesAt w g o Z) (ha : 0 < Z.length → a = some ⟨g, o, none⟩) (hc : Z.length ≤ cap) (hl : Z.length ≤ 3000) :
    Calls Try.prog 6 #[.slice a Z.length cap] w fun e w' => e = .returned (.bool true) ∧ Chg (fun _ => False) w w' := by
  have HZ := Lib.hid hz
  have HA := Lib.hid ha
  have hzs := zeroSums
  clear hz ha
  go_enter Try.func6, Try.ntmps6
  go_wp2_with fail
  refine (twinBytes_any Z a g o cap w HZ.out HA.out (by omega)).mono ?_
  rintro e w1 ⟨h, rfl, hh, hr1, hc1⟩
  have hlt := hr1.lt
  have HR1 := Lib.hid hr1
  have HC1 := Lib.hid hc1
  clear hr1 hc1
  obtain ⟨b, hb⟩ : ∃ b, w1.heap.size = b := ⟨_, rfl⟩
  have HS0 : Hid (SumsSt ((w1.alloc (.cells zerosS 51)).alloc (.cells #[.pointer none, .pointer (some ⟨b, 0, none⟩), .pointer (some ⟨b, 0, none⟩)] 52)) b) := Lib.hid (by
    rw [← hb]
    exact (SumsSt.chg ⟨0, _, SumsAt.made w1 _, .inl rfl⟩ ((Chg.refl (fun _ => False) _).alloc _) (fun h => h)))
  have HQ0 := Lib.hid (three_ptr (w1.alloc (.cells zerosS 51)) (.pointer none) (.pointer (some ⟨b, 0, none⟩)) (.pointer (some ⟨b, 0, none⟩)) 52)
  have HC2 : Hid (Chg (fun _ => False) w1 ((w1.alloc (.cells zerosS 51)).alloc (.cells #[.pointer none, .pointer (some ⟨b, 0, none⟩), .pointer (some ⟨b, 0, none⟩)] 52))) := Lib.hid (((Chg.refl _ _).alloc _).alloc _)
  have hq : (w1.alloc (.cells zerosS 51)).heap.size = b + 1 := by simp [hb]
  rw [hq] at HQ0
  have hbw : w.heap.size ≤ b := by have := HC1.out.size; omega
  have hhb : h < b := by omega
  go_wp2_with fail
  go_loopw [6] (fun i wr => ∃ k : Nat, k ≤ 3 ∧ i = .int .i64 k ∧ SumsSt wr b ∧ Row wr h (Z ++ [195, 195]) ∧ (wr.cell? ⟨b + 1, 0, none⟩ = some (.pointer none) ∧ wr.cell? ⟨b + 1, 1, none⟩ = some (.pointer (some ⟨b, 0, none⟩)) ∧ wr.cell? ⟨b + 1, 2, none⟩ = some (.pointer (some ⟨b, 0, none⟩))) ∧ Chg (fun k => w.heap.size ≤ k) w wr) (fun i _ => 3 - (intOf i).toNat)
  case atStart => exact ⟨0, by omega, rfl, HS0.out, HR1.out.chg HC2.out (fun h => h), HQ0.out, (HC1.out.trans HC2.out).any⟩
  case round =>
    clear HS0 HQ0 HC2 hzs HR1 HC1 hq hb
    obtain ⟨k, hk, rfl, hs, hr, ⟨q0, q1, q2⟩, hc'⟩ := hrel
    have HS := Lib.hid hs
    have HR := Lib.hid hr
    have HC := Lib.hid hc'
    clear hs hr hc'
    by_cases hk3 : k < 3
    · obtain ⟨sv, hsv, hof⟩ : ∃ sv, wr.cell? ⟨b + 1, k, none⟩ = some sv ∧ OfBy sv b := by
        rcases k with _ | _ | _ | k
        · exact ⟨_, q0, ofBy_nil b⟩
        · exact ⟨_, q1, ofBy_ptr b⟩
        · exact ⟨_, q2, ofBy_ptr b⟩
        · omega
      have HOF := Lib.hid hof
      have hwr : b + 1 < wr.heap.size := cell_lt q0
      have hbb : ¬ b + 1 = b := by omega
      have hne : h ≠ b := by omega
      have HQ : Hid (∀ wX, Chg (fun k => k = b ∨ wr.heap.size ≤ k) wr wX → wX.cell? ⟨b + 1, 0, none⟩ = some (.pointer none) ∧ wX.cell? ⟨b + 1, 1, none⟩ = some (.pointer (some ⟨b, 0, none⟩)) ∧ wX.cell? ⟨b + 1, 2, none⟩ = some (.pointer (some ⟨b, 0, none⟩))) := Lib.hid fun wX hX => by
        have hn : ¬ (b + 1 = b ∨ wr.heap.size ≤ b + 1) := by omega
        exact ⟨hX.cellS q0 hn, hX.cellS q1 hn, hX.cellS q2 hn⟩
      have HSV := Lib.hid hsv
      have HK : Hid (∀ wX, Chg (fun k => k = b ∨ wr.heap.size ≤ k) wr wX → wX.cell? ⟨b + 1, k, none⟩ = some sv) := Lib.hid fun wX hX => hX.cellS HSV.out (by show ¬ (b + 1 = b ∨ wr.heap.size ≤ b + 1); omega)
      have HRX : Hid (∀ wX, Chg (fun k => k = b ∨ wr.heap.size ≤ k) wr wX → Row wX h (Z ++ [195, 195])) := Lib.hid fun wX hX => HR.out.chg hX (by show ¬ (h = b ∨ wr.heap.size ≤ h); omega)
      have HCX : Hid (∀ wX, Chg (fun k => k = b ∨ wr.heap.size ≤ k) wr wX → Chg (fun k => w.heap.size ≤ k) w wX) := Lib.hid fun wX hX => HC.out.trans (hX.mono fun k _ e => by omega)
      have b22 : decide ((k : Int) < 3) = true := by simp; omega
      clear q0 q1 q2 hof HR HC
      go_wp2_with fail
      refine (seal_by HOF.out Z _ h 0 (Z.length + 2) wr HS.out ((HRX.out _ (Chg.refl _ _)).bytes (List.prefix_append _ _)) (fun _ => hne) (fun _ => rfl) (by omega)).mono ?_
      rintro e wa ⟨hsb, rfl, hsl, hrs, hsa, hca⟩
      obtain ⟨X, hX⟩ : ∃ X, sealL Z = X := ⟨_, rfl⟩
      have hXl : X.length ≤ 3004 := by rw [← hX, sealL_length]; omega
      rw [hX] at hrs ⊢
      have HX := Lib.hid hX
      have HRS := Lib.hid hrs
      have HSA := Lib.hid hsa
      have HGA : Hid (Chg (fun k => k = b ∨ wr.heap.size ≤ k) wr wa) := Lib.hid (hca.mono fun k _ e => .inl e)
      have ka := HK.out _ HGA.out
      clear hX hrs hsa hca hsv
      go_wp2_with fail
      refine (open_by HOF.out Z h 0 (Z.length + 2) wa HSA.out ((HRX.out _ HGA.out).bytes (List.prefix_append _ _)) hne (by omega) (by omega)).mono ?_
      rintro e wb ⟨vx, pg, rfl, hfx, hsb2, hcb⟩
      obtain ⟨ax, gx, rfl, hbx, hax⟩ := fresh_bytes hfx
      have HBX := Lib.hid hbx
      have HAX := Lib.hid hax
      have HSB := Lib.hid hsb2
      have HGB : Hid (Chg (fun k => k = b ∨ wr.heap.size ≤ k) wr wb) := Lib.hid (HGA.out.trans (hcb.mono fun k _ e => .inl e))
      have HRSB := Lib.hid (HRS.out.chg hcb (show hsb ≠ b by omega))
      have kb := HK.out _ HGB.out
      obtain ⟨O, hO⟩ : ∃ O, openOut Z = O := ⟨_, rfl⟩
      obtain ⟨er, her⟩ : ∃ er, openErr Z = er := ⟨_, rfl⟩
      have hOl : O.length ≤ 3000 := by
        rw [← hO]
        unfold openOut
        split
        · rw [List.length_take]; omega
        · simp
      rw [hO] at HBX HAX hfx ⊢
      have HGX : Hid (O ≠ [] → gx ≠ b) := Lib.hid fun h0 => by
        have e := HAX.out (List.length_pos_iff.2 h0)
        cases pg with
        | none => have := hfx.val; rw [e] at this; cases this
        | some q =>
          have h1 := hfx.val
          have h2 := (hfx.own q rfl).1
          rw [e] at h1
          injection h1 with h1
          injection h1 with h1
          injection h1 with h1
          have := HGA.out.size
          omega
      rw [her]
      have HO := Lib.hid hO
      have HER := Lib.hid her
      clear hfx hbx hax hsb2 hcb ka hO her HSA HGA HRS
      go_wp2_with fail
      refine (refOpen_by Z a g o cap wb (HZ.out.chg (HCX.out _ HGB.out).fresh (fun _ h => h)) HA.out (by omega) hc).mono ?_
      rintro e wc ⟨vy, rfl, hoy, hcc⟩
      rw [HER.out]
      rw [HO.out] at hoy
      obtain ⟨ay, gy, cy, rfl, hby, hay, hgy⟩ := own_bytes hoy
      have HBY := Lib.hid hby
      have HAY := Lib.hid hay
      have HGC : Hid (Chg (fun k => k = b ∨ wr.heap.size ≤ k) wr wc) := Lib.hid (HGB.out.trans hcc.any)
      have HSC := Lib.hid (HSB.out.chg hcc (fun h => h))
      have HRSC := Lib.hid (HRSB.out.chg hcc (fun h => h))
      have HBXC := Lib.hid (HBX.out.chg hcc (fun _ h => h))
      have kc := HK.out _ HGC.out
      have HGY : Hid (O ≠ [] → gy ≠ b) := Lib.hid fun h0 => by have := hgy h0; have := HGB.out.size; omega
      clear hby hay hgy hcc hoy kb HSB HGB HRSB HBX
      go_wp2_with fail
      refine (HOF.out Z _ h 0 (Z.length + 2) wc HSC.out ((HRX.out _ HGC.out).bytes (List.prefix_append _ _)) (fun _ => hne) (fun _ => rfl) (by omega)).mono ?_
      rintro e wd ⟨rfl, hsd, hcd⟩
      have HSD := Lib.hid hsd
      have HGD : Hid (Chg (fun k => k = b ∨ wr.heap.size ≤ k) wr wd) := Lib.hid (HGC.out.trans (hcd.mono fun k _ e => .inl e))
      have kd := HK.out _ HGD.out
      have HRSD := Lib.hid (HRSC.out.chg hcd (show hsb ≠ b by omega))
      have HBXD := Lib.hid (HBXC.out.chg hcd HGX.out)
      have HBYD := Lib.hid (HBY.out.chg hcd HGY.out)
      clear hsd hcd kc HSC HGC HRSC HBXC HBY HGX HGY
      go_wp2_with fail
      refine (refOf_any Z a g o cap wd (HZ.out.chg (HCX.out _ HGD.out).fresh (fun _ h => h)) HA.out (by omega)).mono ?_
      rintro e we ⟨rfl, hce⟩
      have HGE : Hid (Chg (fun k => k = b ∨ wr.heap.size ≤ k) wr we) := Lib.hid (HGD.out.trans hce.any)
      have HSE := Lib.hid (HSD.out.chg hce (fun h => h))
      have HRSE := Lib.hid (HRSD.out.chg hce (fun h => h))
      have HBXE := Lib.hid (HBXD.out.chg hce (fun _ h => h))
      have HBYE := Lib.hid (HBYD.out.chg hce (fun _ h => h))
      have ke := HK.out _ HGE.out
      clear hce HGD HSD HRSD HBXD HBYD kd
      go_wp2_with fail
      refine (refSeal_any Z a g o cap we (HZ.out.chg (HCX.out _ HGE.out).fresh (fun _ h => h)) HA.out (by omega)).mono ?_
      rw [HX.out]
      rintro e wf ⟨vs, rfl, hos, hcf⟩
      obtain ⟨az, gs, cs, rfl, hbs, has, hgs⟩ := own_bytes hos
      have HBS := Lib.hid hbs
      have HAS := Lib.hid has
      have HGF : Hid (Chg (fun k => k = b ∨ wr.heap.size ≤ k) wr wf) := Lib.hid (HGE.out.trans hcf.any)
      have HSF := Lib.hid (HSE.out.chg hcf (fun h => h))
      have HRSF := Lib.hid (HRSE.out.chg hcf (fun h => h))
      have HBXF := Lib.hid (HBXE.out.chg hcf (fun _ h => h))
      have HBYF := Lib.hid (HBYE.out.chg hcf (fun _ h => h))
      have kf := HK.out _ HGF.out
      clear hcf HGE HSE HRSE HBXE HBYE ke hos hbs has hgs
      go_wp2_with fail
      refine (sameBytes_any X X _ _ hsb 0 gs 0 _ cs wf (HRSF.out.bytes (List.prefix_refl _)) (fun _ => rfl) HBS.out HAS.out (by omega)).mono ?_
      rintro e wg ⟨rfl, hcg⟩
      rw [show decide (X = X) = true by simp]
      have HGG : Hid (Chg (fun k => k = b ∨ wr.heap.size ≤ k) wr wg) := Lib.hid (HGF.out.trans hcg.any)
      have HSG := Lib.hid (HSF.out.chg hcg (fun h => h))
      have HBXG := Lib.hid (HBXF.out.chg hcg (fun _ h => h))
      have HBYG := Lib.hid (HBYF.out.chg hcg (fun _ h => h))
      have kg := HK.out _ HGG.out
      clear hcg HGF HSF HRSF HBXF HBYF kf HBS HAS
      go_wp2_with fail
      refine (sameBytes_any O O ax ay gx 0 gy 0 _ cy wg HBXG.out HAX.out HBYG.out HAY.out (by omega)).mono ?_
      rintro e wh ⟨rfl, hch⟩
      rw [show decide (O = O) = true by simp]
      have HGH : Hid (Chg (fun k => k = b ∨ wr.heap.size ≤ k) wr wh) := Lib.hid (HGG.out.trans hch.any)
      have HSH := Lib.hid (HSG.out.chg hch (fun h => h))
      have kh := HK.out _ HGH.out
      clear hch HGG HSG HBXG HBYG kg HAX HAY
      go_wp2_with fail
      refine (leftBytes_any Z Z a h g o cap wh (HRX.out _ HGH.out) (HZ.out.chg (HCX.out _ HGH.out).fresh (fun _ h => h)) HA.out (by omega)).mono ?_
      rintro e wi ⟨rfl, hci⟩
      rw [show decide (Z = Z) = true by simp]
      have HGI : Hid (Chg (fun k => k = b ∨ wr.heap.size ≤ k) wr wi) := Lib.hid (HGH.out.trans hci.any)
      have HSI := Lib.hid (HSH.out.chg hci (fun h => h))
      have ki := HK.out _ HGI.out
      clear hci HGH HSH kh
      go_wp2_with fail
      refine (twinBytes_any Z a g o cap wi (HZ.out.chg (HCX.out _ HGI.out).fresh (fun _ h => h)) HA.out (by omega)).mono ?_
      rintro e wj ⟨hu, rfl, huh, hru, hcj⟩
      have HGJ : Hid (Chg (fun k => k = b ∨ wr.heap.size ≤ k) wr wj) := Lib.hid (HGI.out.trans hcj.any)
      have HSJ := Lib.hid (HSI.out.chg hcj (fun h => h))
      have HRU := Lib.hid hru
      have kj := HK.out _ HGJ.out
      have hsi : wr.heap.size ≤ wi.heap.size := HGI.out.size
      have hub : hu ≠ b := by omega
      clear hcj hru HGI HSI ki
      go_wp2_with fail
      refine (seal_by HOF.out Z _ hu 0 (Z.length + 2) wj HSJ.out (HRU.out.bytes (List.prefix_append _ _)) (fun _ => hub) (fun _ => rfl) (by omega)).mono ?_
      rw [HX.out]
      rintro e wk ⟨hv, rfl, hvl, hrv, hsk, hck⟩
      have HGK : Hid (Chg (fun k => k = b ∨ wr.heap.size ≤ k) wr wk) := Lib.hid (HGJ.out.trans (hck.mono fun k _ e => .inl e))
      have HSK := Lib.hid hsk
      have HRV := Lib.hid hrv
      have HRUK := Lib.hid (HRU.out.chg hck hub)
      have hult : hu < wj.heap.size := HRU.out.lt
      have hvlt : hv < wk.heap.size := hrv.lt
      have hvb : hv ≠ b := by omega
      have kk := HK.out _ HGK.out
      clear hck hsk hrv HGJ HSJ HRU kj
      go_wp2_with fail
      refine (open_by HOF.out Z hu 0 (Z.length + 2) wk HSK.out (HRUK.out.bytes (List.prefix_append _ _)) hub (by omega) (by omega)).mono ?_
      rw [HO.out]
      rintro e wl ⟨vw, qg, rfl, hfw, hsl2, hcl⟩
      have HSL := Lib.hid hsl2
      have HGL : Hid (Chg (fun k => k = b ∨ wr.heap.size ≤ k) wr wl) := Lib.hid (HGK.out.trans (hcl.mono fun k _ e => .inl e))
      have HRUL := Lib.hid (HRUK.out.chg hcl hub)
      have HRVL := Lib.hid (HRV.out.chg hcl hvb)
      have HFW := Lib.hid hfw
      have hskl : wk.heap.size ≤ wl.heap.size := hcl.size
      have hvw := hfw.val
      subst hvw
      clear hcl hsl2 hfw HGK HSK HRUK HRV kk
      go_wp2_with fail
      have HB0 : Hid (BookAt (wl.alloc (.cells #[.slice none 0 0] 30)) (wl.heap.size + 1) wl.heap.size (.slice none 0 0) []) :=
        Lib.hid ⟨by rw [World.cell?_alloc_new]; rfl, World.frozen?_alloc_new _ _ _ _, ⟨rfl, .inl ⟨rfl, rfl⟩⟩, by simp, by omega⟩
      have HC0 := Lib.hid ((Chg.refl (fun _ => False) wl).alloc (.cells #[.slice none 0 0] 30))
      refine (bookBytes_any (wl.heap.size + 1) wl.heap.size _ [] ⟨some hu, Z.length, Z.length + 2, 1, behindOf 1⟩ _ HB0.out (by simp) rfl rfl).mono ?_
      rintro e w8 ⟨v8, rfl, hb8, hc8⟩
      have HB8 := Lib.hid hb8
      have HC8 := Lib.hid ((HC0.out.any.trans (hc8.mono (T := fun k => wl.heap.size ≤ k) (fun k _ e => by omega))))
      clear hb8 hc8 HB0 HC0
      go_wp2_with fail
      refine (bookBytes_any (wl.heap.size + 1) wl.heap.size v8 _ ⟨some hv, X.length, X.length, 2, behindOf 2⟩ w8 HB8.out (by simp) rfl rfl).mono ?_
      rintro e w9 ⟨v9, rfl, hb9, hc9⟩
      have HB9 := Lib.hid hb9
      have HC9 := Lib.hid (HC8.out.trans (hc9.mono (T := fun k => wl.heap.size ≤ k) (fun k _ e => by omega)))
      clear hb9 hc9 HB8 HC8
      go_wp2_with fail
      refine (bookBytes_any (wl.heap.size + 1) wl.heap.size v9 _ ⟨qg, O.length, O.length, 3, behindOf 3⟩ w9 HB9.out (by simp) rfl rfl).mono ?_
      rintro e w10 ⟨v10, rfl, hb10, hc10⟩
      have HB10 := Lib.hid hb10
      have HC10 := Lib.hid (HC9.out.trans (hc10.mono (T := fun k => wl.heap.size ≤ k) (fun k _ e => by omega)))
      clear hb10 hc10 HB9 HC9
      have hqb : ∀ q, qg = some q → wk.heap.size ≤ q ∧ q < wl.heap.size := fun q hq => ⟨(HFW.out.own q hq).1, (HFW.out.own q hq).2.lt⟩
      have HPG : Hid (Pages w10 [⟨some hu, Z.length, Z.length + 2, 1, behindOf 1⟩, ⟨some hv, X.length, X.length, 2, behindOf 2⟩, ⟨qg, O.length, O.length, 3, behindOf 3⟩] 0 0) := Lib.hid (pages3
        (page_of (HRUL.out.chg HC10.out (by omega)) (by simp) (by omega) (by omega) (by constructor <;> omega))
        (page_of (HRVL.out.chg HC10.out (by omega)) rfl (Nat.le_refl _) (by omega) (by constructor <;> omega))
        (page_fresh (HFW.out.chg HC10.out (fun q _ h2 h3 => by omega)) (by omega) (by constructor <;> omega)))
      have HAL : Hid (ApartL [⟨some hu, Z.length, Z.length + 2, 1, behindOf 1⟩, ⟨some hv, X.length, X.length, 2, behindOf 2⟩, ⟨qg, O.length, O.length, 3, behindOf 3⟩]) := Lib.hid (apart3x rfl rfl (by omega) (fun c hc => by have := hqb c hc; omega) (fun c hc => by have := hqb c hc; omega))
      have HIN : Hid (∀ p ∈ [(⟨some hu, Z.length, Z.length + 2, 1, behindOf 1⟩ : Pg), ⟨some hv, X.length, X.length, 2, behindOf 2⟩, ⟨qg, O.length, O.length, 3, behindOf 3⟩], ∀ g, p.g = some g → wr.heap.size ≤ g ∧ g < wl.heap.size) := Lib.hid (by
        intro p hp g hg
        simp at hp
        rcases hp with rfl | rfl | rfl
        · simp at hg; omega
        · simp at hg; omega
        · have := hqb g hg; omega)
      clear hqb HRUL HRVL HFW
      go_wp2_with fail
      refine (apart_any (wl.heap.size + 1) wl.heap.size v10 _ w10 HB10.out (by simp) HPG.out (fun p hp g hg => (HIN.out p hp g hg).2) HAL.out).mono ?_
      rintro e w11 ⟨rfl, hc11⟩
      have HS11 := Lib.hid ((HSL.out.chg HC10.out (by omega)).chg hc11 (by
        rintro ⟨p, hp, hg⟩
        have := HIN.out p hp _ hg
        omega))
      have HG11 : Hid (Chg (fun k => k = b ∨ wr.heap.size ≤ k) wr w11) := Lib.hid ((HGL.out.trans (HC10.out.mono fun k _ e => by have := HGL.out.size; omega)).trans (hc11.mono fun k _ e => by
        obtain ⟨p, hp, hg⟩ := e
        have := HIN.out p hp _ hg
        omega))
      clear hc11 HC10 HB10 HPG HAL HIN HGL HSL
      go_wp2
      go_roundw
      case rel => first | exact ⟨k + 1, by omega, by go_num, HS11.out, HRX.out _ HG11.out, HQ.out _ HG11.out, HCX.out _ HG11.out⟩ | ((repeat apply Exists.intro); exact ⟨⟨k + 1, by omega, rfl, HS11.out, HRX.out _ HG11.out, HQ.out _ HG11.out, HCX.out _ HG11.out⟩, rfl⟩)
      case measure => simp [intOf]; omega
    · obtain rfl : k = 3 := by omega
      clear q0 q1 q2 HS HR
      go_wp2_with fail
      refine (lives_any _).mono ?_
      rintro e w7 ⟨rfl, hc7⟩
      have HC7 := Lib.hid (HC.out.fresh.trans hc7)
      clear hc7
      go_wp2
      go_ret
      exact ⟨rfl, HC7.out⟩

set_option maxRecDepth 100000 in
set_option maxHeartbeats 2000000 in
theorem sum_long (a : Option Addr) (k cap : Nat) (w : World) (hl : 3000 < k) :
    Calls Try.prog 6 #[.slice a k cap] w fun e w' => e = .returned (.bool true) ∧ Chg (fun _ => False) w w' := by
  go_enter Try.func6, Try.ntmps6
  go_wp2_with fail
  refine (lives_any _).mono ?_
  rintro e w7 ⟨rfl, hc7⟩
  have HC7 := Lib.hid hc7
  clear hc7
  go_wp2
  go_ret
  exact ⟨rfl, HC7.out⟩
end Go.Proofs.Ytnfniilimgfjoaa
