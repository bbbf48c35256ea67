/- A book: a page more. -/
import Derived.Test.YtnfniilimgfjoaaBookS
import Derived.Maps.AppendAt
namespace Go.Proofs.Ytnfniilimgfjoaa
open Go.RowKit

def Pg.page (p : Pg) : Value := .iface 66 p.row
theorem infoPage : (Try.prog.info? 68).map (fun i => (i.zero, i.size, i.bytes)) = some (some .nilIface, 1, 16) := by kernel_rfl
def pagesV (L : List Pg) : List Value := L.map Pg.page
/-- A book of pages. -/
structure BookAt (w : World) (B b : Nat) (v : Value) (L : List Pg) : Prop where
  c : w.cell? ⟨b, 0, none⟩ = some v
  z : w.frozen? ⟨b, 0, none⟩ = false
  own : w.ownsRow B 68 1 v L.length (pagesV L)
  hB : B ≤ w.heap.size
  hb : b < B

theorem ownsRow_chg {S : Nat → Prop} {w w' : World} {B n size : Nat} {e : TypeId} {v : Value} {xs : List Value} (h : w.ownsRow B e size v n xs) (hc : Chg S w w') (hs : ∀ g, B ≤ g → g < w.heap.size → ¬ S g) : w'.ownsRow B e size v n xs := by
  refine ⟨h.1, h.2.elim .inl fun ⟨g, cap, cur, hv, hb, hg, r⟩ => .inr ⟨g, cap, cur, hv, hb, ?_, r⟩⟩
  have hlt : g < w.heap.size := by
    rcases Nat.lt_or_ge g w.heap.size with h | h
    · exact h
    · rw [Array.getElem?_eq_none h] at hg; cases hg
  rw [hc.block g hlt (hs g hb hlt)]
  exact hg
theorem ownBlock_ge {w : World} {B n size : Nat} {e : TypeId} {v : Value} {xs : List Value} (h : w.ownsRow B e size v n xs) {k : Nat} (hk : v.ownBlock = some k) : B ≤ k := by
  rcases h.2 with ⟨rfl, _⟩ | ⟨g, cap, cur, rfl, hb, _⟩
  · cases hk
  · simp [Value.ownBlock] at hk
    omega
theorem BookAt.chg {S : Nat → Prop} {w w' : World} {B b : Nat} {v : Value} {L : List Pg} (h : BookAt w B b v L) (hc : Chg S w w') (h1 : ¬ S b) (h2 : ∀ g, B ≤ g → g < w.heap.size → ¬ S g) : BookAt w' B b v L :=
  ⟨hc.cellS h.c h1, (hc.frozen (p := ⟨b, 0, none⟩) (by have := h.hB; have := h.hb; show b < _; omega) h1).trans h.z, ownsRow_chg h.own hc h2, Nat.le_trans h.hB hc.size, h.hb⟩

theorem slice_of_own {w : World} {B e size n : Nat} {v : Value} {xs : List Value} (h : w.ownsRow B e size v n xs) : ∃ a k c, v = .slice a k c := by
  rcases h.2 with ⟨rfl, _⟩ | ⟨g, cap, cur, rfl, _⟩
  · exact ⟨_, _, _, rfl⟩
  · exact ⟨_, _, _, rfl⟩
theorem number_any (b n : Nat) (a : Option Addr) (c : Nat) (w : World) (hc : w.cell? ⟨b, 0, none⟩ = some (.slice a n c)) (hn : n ≤ 1000000) :
    Calls Try.prog 30 #[.pointer (some ⟨b, 0, none⟩)] w fun e w' => e = .returned (.int .i64 (n + 1)) ∧ w' = w := by
  go_enter Try.func30, Try.ntmps30
  go_wp2
  go_ret
  exact ⟨rfl, rfl⟩

set_option maxRecDepth 100000 in
set_option maxHeartbeats 2000000 in
theorem bookBytes_any (B b : Nat) (v : Value) (L : List Pg) (p : Pg) (w : World) (H : BookAt w B b v L) (hl : L.length ≤ 100) (hm : p.mark = L.length + 1) (hb : p.behind = bits BinOp.xor IntKind.u8 (L.length + 1) 128) :
    Calls Try.prog 14 #[.pointer (some ⟨b, 0, none⟩), p.v] w fun e w' => ∃ v', e = .returned (.tuple #[]) ∧ BookAt w' B b v' (L ++ [p]) ∧ Chg (fun k => k = b ∨ B ≤ k) w w' := by
  obtain ⟨i0, hi, hz0, hz1, hz2⟩ := info_parts infoPage
  have hc := H.c
  have hz := H.z
  obtain ⟨vl, vc, hv⟩ : ∃ a c, v = .slice a L.length c := by
    rcases H.own.2 with ⟨rfl, h0⟩ | ⟨g, cap, cur, rfl, _⟩
    · exact ⟨none, 0, by rw [h0]⟩
    · exact ⟨_, _, rfl⟩
  have HP : Hid (p.page = .iface 66 (.agg #[p.v, .int .u8 (L.length + 1), .int .u8 (bits BinOp.xor IntKind.u8 (L.length + 1) 128)])) := Lib.hid (by rw [Pg.page, Pg.row, hm, hb])
  have HPB := Lib.hid (show p.page.oneCell' = true from rfl)
  obtain ⟨pa, pl, pc, hpv⟩ : ∃ pa pl pc, p.v = .slice pa pl pc := ⟨_, _, _, rfl⟩
  rw [hpv] at HP ⊢
  rw [HP.out] at HPB
  have HA := Lib.hid (H.chg ((Chg.refl (fun _ => False) w).alloc (.cells #[.iface 66 (.agg #[.slice pa pl pc, .int .u8 (L.length + 1), .int .u8 (bits BinOp.xor IntKind.u8 (L.length + 1) 128)])] 68)) (fun h => h) (fun _ _ _ h => h))
  have HFIN : Hid (∀ v' w1, w1.ownsRow B 68 1 v' (L.length + 1) (pagesV L ++ [.iface 66 (.agg #[.slice pa pl pc, .int .u8 (L.length + 1), .int .u8 (bits BinOp.xor IntKind.u8 (L.length + 1) 128)])]) → (w.alloc (.cells #[.iface 66 (.agg #[.slice pa pl pc, .int .u8 (L.length + 1), .int .u8 (bits BinOp.xor IntKind.u8 (L.length + 1) 128)])] 68)).grownBy w1 v.ownBlock →
      (w1.cell? ⟨b, 0, none⟩ = some v ∧ w1.frozen? ⟨b, 0, none⟩ = false) ∧ BookAt (w1.setCell ⟨b, 0, none⟩ v') B b v' (L ++ [p]) ∧ Chg (fun k => k = b ∨ B ≤ k) w (w1.setCell ⟨b, 0, none⟩ v')) := Lib.hid (by
    intro v' w1 h1 h2
    have hcg : Chg (fun k => B ≤ k) w w1 := ((Chg.refl _ w).alloc _).trans ((Chg.refl _ _).grown h2 (fun k hk => .inr (ownBlock_ge H.own hk)))
    have hbb := H.hb
    have c1 := hcg.cellS H.c (show ¬ B ≤ b by omega)
    have z1 := (hcg.frozen (p := ⟨b, 0, none⟩) (by have := H.hB; show b < _; omega) (show ¬ B ≤ b by omega)).trans H.z
    refine ⟨⟨c1, z1⟩, ⟨World.cell?_setCell_same _ _ _ c1, (World.frozen?_setCell _ _ _ _).trans z1, ?_, Nat.le_trans H.hB (Nat.le_trans hcg.size (setCellChg _ _ _ _).size), hbb⟩, (hcg.mono (fun k _ e => .inr e)).trans ((setCellChg w1 b 0 v').mono (fun k _ e => .inl e))⟩
    have := ownsRow_chg h1 (setCellChg w1 b 0 v') (fun g hg _ e => by omega)
    rw [pagesV, List.map_append, List.length_append, List.map_singleton, HP.out]
    exact this)
  have h256 : ((L.length : Int) + 1) % 256 = (L.length : Int) + 1 := by omega
  have HB := Lib.hid H.hB
  subst hv
  clear H hm hb hpv
  go_enter Try.func14, Try.ntmps14
  go_wp2_with fail
  refine (number_any b L.length vl vc w hc (by omega)).mono ?_
  rintro e w' ⟨rfl, rfl⟩
  go_wp2_with (at_builtin; refine wpList_append_own_at _ rfl _ _ 28 rfl B 68 i0 .nilIface 1 16 Try.underlying28 hi hz0 hz1 hz2 rfl (by decide) _ _ _ rfl HA.out.own ⟨w'.heap.size, 0, none⟩ 1 1 [.iface 66 (.agg #[.slice pa pl pc, .int .u8 (L.length + 1), .int .u8 (bits BinOp.xor IntKind.u8 (L.length + 1) 128)])] rfl rfl (cell_one_new _ _ _) (by simp [HPB.out]) (by unfold maxLen; omega) (by omega) HA.out.hB ?_; intro v' w1 hown hgrow _ _; obtain ⟨⟨k1, k2⟩, hf⟩ := HFIN.out v' w1 hown hgrow; obtain ⟨va, vn, vk, hv'⟩ := slice_of_own hown; subst hv'; have HFF := Lib.hid hf; clear hf hown hgrow)
  go_end0
  exact ⟨_, rfl, HFF.out.1, HFF.out.2⟩
end Go.Proofs.Ytnfniilimgfjoaa
