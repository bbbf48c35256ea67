/- A part of the proof: TakeA TakeL ConcatG RowsP RowsQ TakeP TakeQ RowsV CodP CodG. -/
import Derived.Test.YtgnpmceimpjheaaGreatGT3
import Derived.Test.YtgnpmceimpjheaaGreatGT2
import Derived.Lib.VarintBits
import Derived.Handy
set_option maxRecDepth 100000
set_option maxHeartbeats 16000000
namespace Go.Proofs.YtgnpmceimpjheaaGreat
open Go.RowKit
def takeL:Nat→Nat→List Int→Option (Nat × Nat)
 | _,_,[]=>none
 | i,acc,c :: l=>if 5≤i then none else if 128≤c then takeL (i+1) (acc+c.toNat % 128 * 128 ^ i) l
  else if (c=0∧0<i)∨4294967295<acc+c.toNat % 128 * 128 ^ i then none else some (acc+c.toNat % 128 * 128 ^ i,i+1)
def takeV:Option (Nat × Nat)→Value
 | none=>.tuple #[.int .u32 0,.int .i64 0,.int .i64 4]
 | some (n,s)=>.tuple #[.int .u32 n,.int .i64 s,.int .i64 0]
theorem takeL_end (i acc : Nat) (Z : List Int) (h : Z = [] ∨ 5 ≤ i) : takeL i acc Z = none := by
  cases Z with
  | nil => rfl
  | cons c l =>
    unfold takeL
    rw [if_pos (by rcases h with h|h; · cases h
                   · exact h)]
theorem andNotF:∀ k:Fin 256,bits BinOp.andNot IntKind.u8 (k.val:Int) 128=((k.val % 128:Nat):Int):=by decide +kernel
theorem step_or (k acc:Nat) (z:Int) (hk:k<5) (hacc:acc<128 ^ k) (hz:Byte z) :
  bits BinOp.or IntKind.u64 (acc:Int) (IntKind.u64.wrap (IntKind.u64.wrap (bits BinOp.andNot IntKind.u8 z 128) * 2 ^ (7 * k)))=((acc+z.toNat % 128 * 128 ^ k:Nat):Int):=by
 obtain⟨h0,h1⟩:=hz
 obtain⟨n,rfl⟩:=Int.eq_ofNat_of_zero_le h0
 have e1:=andNotF ⟨n,by omega⟩
 simp only at e1
 have e1':bits BinOp.andNot IntKind.u8 (Int.ofNat n) 128=((n % 128:Nat):Int):=e1
 have hw:∀ m:Nat,m<18446744073709551616→IntKind.u64.wrap (m:Int)=m:=fun m hm=>by
  simp [IntKind.wrap,IntKind.bits,IntKind.signed]
  omega
 rw [show ((n:Nat):Int)=Int.ofNat n from rfl,e1',hw _ (by omega),show (Int.ofNat n).toNat=n from rfl]
 have hm:n % 128<128:=Nat.mod_lt _ (by omega)
 generalize n % 128=m at *
 match k,hk with
 | 0,_ =>
  rw [show ((m:Nat):Int) * 2 ^ (7 * 0)=((m:Nat):Int) by simp,hw _ (by omega)]
  refine (u64_orv0 (acc:Int) _ (by omega) (by simp at hacc;omega) (by omega) (by omega) (by omega)).trans ?_
  simp
 | 1,_ =>
  rw [show ((m:Nat):Int) * 2 ^ (7 * 1)=((m * 128:Nat):Int) by simp,hw _ (by omega)]
  refine (u64_orv7 (acc:Int) _ (by omega) (by simp at hacc;omega) (by omega) (by omega) (by omega)).trans ?_
  simp
 | 2,_ =>
  rw [show ((m:Nat):Int) * 2 ^ (7 * 2)=((m * 16384:Nat):Int) by simp,hw _ (by omega)]
  refine (u64_orv14 (acc:Int) _ (by omega) (by simp at hacc;omega) (by omega) (by omega) (by omega)).trans ?_
  simp
 | 3,_ =>
  rw [show ((m:Nat):Int) * 2 ^ (7 * 3)=((m * 2097152:Nat):Int) by simp,hw _ (by omega)]
  refine (u64_orv21 (acc:Int) _ (by omega) (by simp at hacc;omega) (by omega) (by omega) (by omega)).trans ?_
  simp
 | 4,_ =>
  rw [show ((m:Nat):Int) * 2 ^ (7 * 4)=((m * 268435456:Nat):Int) by simp,hw _ (by omega)]
  refine (u64_orv28 (acc:Int) _ (by omega) (by simp at hacc;omega) (by omega) (by omega) (by omega)).trans ?_
  simp
theorem acc_lt {k acc:Nat} {z:Int} (hacc:acc<128 ^ k):acc+z.toNat % 128 * 128 ^ k<128 ^ (k+1):=by
 have h1:z.toNat % 128<128:=Nat.mod_lt _ (by omega)
 rw [Nat.pow_succ,Nat.mul_comm (128 ^ k) 128]
 have h2:z.toNat % 128 * 128 ^ k≤127 * 128 ^ k:=Nat.mul_le_mul_right _ (by omega)
 omega
theorem takeL_step {k acc:Nat} {Z:List Int} {z:Int} (hz:Z[k]?=some z) (hk:k<5) :
  takeL k acc (Z.drop k)=if 128≤z then takeL (k+1) (acc+z.toNat % 128 * 128 ^ k) (Z.drop (k+1))
   else if (z=0∧0<k)∨4294967295<acc+z.toNat % 128 * 128 ^ k then none else some (acc+z.toNat % 128 * 128 ^ k,k+1):=by
 have h1:=(List.getElem?_eq_some_iff.1 hz).1
 rw [List.drop_eq_getElem_cons h1,(List.getElem?_eq_some_iff.1 hz).2,takeL,if_neg (by omega)]
theorem take_any (Z : List Int) (a : Option Addr) (g o c : Nat) (w : World) (hz : BytesAt w g o Z) (ha : 0<Z.length → a = some ⟨g, o, none⟩) (hc : Z.length ≤ c) (hl : Z.length ≤ 100000000) :
    Calls Tryz.prog 141 #[.slice a Z.length c] w fun e w' => e = .returned (takeV (takeL 0 0 Z)) ∧ Chg (fun _ => False) w w' := by
  have HZ := jh hz
  have HA := jh ha
  clear hz ha
  by_cases h5 : Z.length ≤ 5
  · go_enter Tryz.func141, Tryz.ntmps141
    go_wp2
    go_loopw [5, 14] (fun q i wr => ∃ (k acc : Nat), k ≤ Z.length ∧ i = .int .i64 k ∧ q = .int .u64 acc ∧ acc<128 ^ k ∧ takeL 0 0 Z = takeL k acc (Z.drop k) ∧ Chg (fun _ => False) w wr) (fun _ i _ => Z.length-(intOf i).toNat)
    case atStart => exact⟨0, 0, by omega, rfl, rfl, by simp, by simp, Chg.refl _ _⟩
    case round =>
      obtain⟨k, acc, hk, rfl, rfl, hacc, he, hc⟩ := hrel
      have HE := jh he
      have HC := jh hc
      clear he hc
      by_cases hkl : k<Z.length
      · have b15 : decide ((k : Int)<((Z.length : Nat) : Int)) = true := by simp; omega
        obtain⟨z, hz, c1, z0, z1⟩ := (HZ.out.chg HC.out (fun _ h => h)).get (k := k) (by omega)
        have e1 := HA.out (by omega)
        subst e1
        have HZG := jh hz
        obtain⟨A, hA⟩ : ∃ A : Int, bits BinOp.or IntKind.u64 (acc : Int) (IntKind.u64.wrap (IntKind.u64.wrap (bits BinOp.andNot IntKind.u8 z 128) * 2 ^ (7 * k))) = A := ⟨_, rfl⟩
        have HAV : Hid (A = ((acc + z.toNat % 128 * 128 ^ k : Nat) : Int)) := jh (by rw [← hA]; exact step_or k acc z (by omega) hacc ⟨z0, z1⟩)
        have HT := jh (HE.out.trans (takeL_step hz (by omega)))
        have HL := jh (acc_lt (z := z) hacc)
        clear hz hacc HE
        by_cases h128 : 128 ≤ z
        · rw [if_pos h128] at HT
          go_wp2
          rw [HAV.out]
          go_roundw
          case rel => exact⟨k + 1, _, by omega, by go_num, rfl, HL.out, HT.out, HC.out⟩
          case measure => simp [intOf]; omega
        · rw [if_neg h128] at HT
          by_cases h0 : z = 0 ∧ 0<k
          · obtain⟨h0, hk0⟩ := h0
            rw [if_pos (.inl ⟨h0, hk0⟩)] at HT
            have q1 : (z == 0) = true := by simpa using h0
            have q2 : decide (0<(k : Int)) = true := by simp; omega
            clear h0
            go_wp2
            go_ret3
            exact⟨by rw [HT.out]; rfl, HC.out⟩
          · by_cases hmax : 4294967295<acc + z.toNat % 128 * 128 ^ k
            · rw [if_pos (.inr hmax)] at HT
              have q3 : decide (4294967295<A) = true := by rw [HAV.out]; simp only [decide_eq_true_eq]; omega
              clear hmax
              by_cases hz0 : z = 0
              · have q1 : (z == 0) = true := by simpa using hz0
                have q2 : decide (0<(k : Int)) = false := by simp; omega
                have q5 : ¬ 0<k := by omega
                clear hz0 h0
                go_wp2
                go_ret3
                exact⟨by rw [HT.out]; rfl, HC.out⟩
              · have q1 : (z == 0) = false := by simpa using hz0
                clear hz0 h0
                go_wp2
                go_ret3
                exact⟨by rw [HT.out]; rfl, HC.out⟩
            · rw [if_neg (by rintro (h|h); · exact h0 h
                             · exact hmax h)] at HT
              have q3 : decide (4294967295<A) = false := by rw [HAV.out]; simp only [decide_eq_false_iff_not]; omega
              have q4 : A % 4294967296 = A := by rw [HAV.out]; omega
              clear hmax
              by_cases hz0 : z = 0
              · have q1 : (z == 0) = true := by simpa using hz0
                have q2 : decide (0<(k : Int)) = false := by simp; omega
                have q5 : ¬ 0<k := by omega
                clear hz0 h0
                go_wp2
                go_ret3
                exact⟨by rw [HT.out, HAV.out]; rfl, HC.out⟩
              · have q1 : (z == 0) = false := by simpa using hz0
                clear hz0 h0
                go_wp2
                go_ret3
                exact⟨by rw [HT.out, HAV.out]; rfl, HC.out⟩
      · have HT : Hid (takeL 0 0 Z = none) := jh (by rw [HE.out]; exact takeL_end _ _ _ (by first|(right; omega)|(left; exact List.drop_eq_nil_of_le (by omega))))
        obtain rfl : k = Z.length := by omega
        go_wp2
        go_ret3
        exact⟨by rw [HT.out]; rfl, HC.out⟩
  · go_enter Tryz.func141, Tryz.ntmps141
    go_wp2
    go_loopw [5, 14] (fun q i wr => ∃ (k acc : Nat), k ≤ 5 ∧ i = .int .i64 k ∧ q = .int .u64 acc ∧ acc<128 ^ k ∧ takeL 0 0 Z = takeL k acc (Z.drop k) ∧ Chg (fun _ => False) w wr) (fun _ i _ => 5-(intOf i).toNat)
    case atStart => exact⟨0, 0, by omega, rfl, rfl, by simp, by simp, Chg.refl _ _⟩
    case round =>
      obtain⟨k, acc, hk, rfl, rfl, hacc, he, hc⟩ := hrel
      have HE := jh he
      have HC := jh hc
      clear he hc
      by_cases hkl : k<5
      · have b15 : decide ((k : Int)<((5 : Nat) : Int)) = true := by simp; omega
        obtain⟨z, hz, c1, z0, z1⟩ := (HZ.out.chg HC.out (fun _ h => h)).get (k := k) (by omega)
        have e1 := HA.out (by omega)
        subst e1
        have HZG := jh hz
        obtain⟨A, hA⟩ : ∃ A : Int, bits BinOp.or IntKind.u64 (acc : Int) (IntKind.u64.wrap (IntKind.u64.wrap (bits BinOp.andNot IntKind.u8 z 128) * 2 ^ (7 * k))) = A := ⟨_, rfl⟩
        have HAV : Hid (A = ((acc + z.toNat % 128 * 128 ^ k : Nat) : Int)) := jh (by rw [← hA]; exact step_or k acc z (by omega) hacc ⟨z0, z1⟩)
        have HT := jh (HE.out.trans (takeL_step hz (by omega)))
        have HL := jh (acc_lt (z := z) hacc)
        clear hz hacc HE
        by_cases h128 : 128 ≤ z
        · rw [if_pos h128] at HT
          go_wp2
          rw [HAV.out]
          go_roundw
          case rel => exact⟨k + 1, _, by omega, by go_num, rfl, HL.out, HT.out, HC.out⟩
          case measure => simp [intOf]; omega
        · rw [if_neg h128] at HT
          by_cases h0 : z = 0 ∧ 0<k
          · obtain⟨h0, hk0⟩ := h0
            rw [if_pos (.inl ⟨h0, hk0⟩)] at HT
            have q1 : (z == 0) = true := by simpa using h0
            have q2 : decide (0<(k : Int)) = true := by simp; omega
            clear h0
            go_wp2
            go_ret3
            exact⟨by rw [HT.out]; rfl, HC.out⟩
          · by_cases hmax : 4294967295<acc + z.toNat % 128 * 128 ^ k
            · rw [if_pos (.inr hmax)] at HT
              have q3 : decide (4294967295<A) = true := by rw [HAV.out]; simp only [decide_eq_true_eq]; omega
              clear hmax
              by_cases hz0 : z = 0
              · have q1 : (z == 0) = true := by simpa using hz0
                have q2 : decide (0<(k : Int)) = false := by simp; omega
                have q5 : ¬ 0<k := by omega
                clear hz0 h0
                go_wp2
                go_ret3
                exact⟨by rw [HT.out]; rfl, HC.out⟩
              · have q1 : (z == 0) = false := by simpa using hz0
                clear hz0 h0
                go_wp2
                go_ret3
                exact⟨by rw [HT.out]; rfl, HC.out⟩
            · rw [if_neg (by rintro (h|h); · exact h0 h
                             · exact hmax h)] at HT
              have q3 : decide (4294967295<A) = false := by rw [HAV.out]; simp only [decide_eq_false_iff_not]; omega
              have q4 : A % 4294967296 = A := by rw [HAV.out]; omega
              clear hmax
              by_cases hz0 : z = 0
              · have q1 : (z == 0) = true := by simpa using hz0
                have q2 : decide (0<(k : Int)) = false := by simp; omega
                have q5 : ¬ 0<k := by omega
                clear hz0 h0
                go_wp2
                go_ret3
                exact⟨by rw [HT.out, HAV.out]; rfl, HC.out⟩
              · have q1 : (z == 0) = false := by simpa using hz0
                clear hz0 h0
                go_wp2
                go_ret3
                exact⟨by rw [HT.out, HAV.out]; rfl, HC.out⟩
      · have HT : Hid (takeL 0 0 Z = none) := jh (by rw [HE.out]; exact takeL_end _ _ _ (by first|(right; omega)|(left; exact List.drop_eq_nil_of_le (by omega))))
        obtain rfl : k = 5 := by omega
        go_wp2
        go_ret3
        exact⟨by rw [HT.out]; rfl, HC.out⟩
end Go.Proofs.YtgnpmceimpjheaaGreat
namespace Go.Proofs.YtgnpmceimpjheaaGreat
open Go.RowKit
theorem takeL_put:∀ (m k acc:Nat) (rest:List Int),acc+m * 128 ^ k<4294967296→k+(putL m).length≤5→(m≠0∨k=0) →
  takeL k acc (putL m++rest)=some (acc+m * 128 ^ k,k+(putL m).length):=by
 intro m
 induction m using Nat.strongRecOn with
 | _ m ih =>
  intro k acc rest hlt hl hm
  by_cases h:m<128
  ·rw [putL_small h] at hl ⊢
   simp only [List.length_singleton] at hl
   rw [List.singleton_append,takeL,if_neg (by omega),if_neg (by omega),Int.toNat_natCast,Nat.mod_eq_of_lt h,if_neg (by rintro (h1|h1) <;> omega)]
   rfl
  ·rw [putL_big (by omega)] at hl ⊢
   simp only [List.length_cons] at hl
   have e1:(((m % 128+128:Nat):Int)).toNat % 128=m % 128:=by omega
   rw [List.cons_append,takeL,if_neg (by omega),if_pos (by omega),e1]
   have e2:acc+m % 128 * 128 ^ k+m / 128 * 128 ^ (k+1)=acc+m * 128 ^ k:=by
    rw [Nat.pow_succ,Nat.mul_comm (128 ^ k) 128,← Nat.mul_assoc,Nat.add_assoc,← Nat.add_mul]
    congr 2
    omega
   rw [ih (m / 128) (by omega) (k+1) _ rest (by rw [e2];exact hlt) (by omega) (.inl (by omega)),e2,List.length_cons]
   congr 2
   omega
theorem takeL_whole {n:Nat} (hn:n<4294967296) (rest:List Int):takeL 0 0 (putL n++rest)=some (n,(putL n).length):=by
 have:=takeL_put n 0 0 rest (by simpa using hn) (by have:=putL_len5 hn;omega) (.inr rfl)
 simpa using this
end Go.Proofs.YtgnpmceimpjheaaGreat
namespace Go.Proofs.YtgnpmceimpjheaaGreat
open Go.RowKit
theorem grow_k (w:World) (k:Nat) (hk:0<k) (hl:k≤1000000000) :
  Calls Tryz.prog 115 #[.slice none 0 0,.int .i64 k] w fun e w'=>∃ v,e=.returned v∧Own w' w.heap.size v []∧Chg (fun _=>False) w w':=by
 obtain⟨w1,C1,hrun,hR1,hp1,hl1,hm1,hc1⟩:=zeros8 (w:=w) none [] (fun w' _=>run_firstCells_none w' 1 0 0 0) (fun _ h=>by cases h) k hk (by simp;omega) 0
 simp only [List.length_nil,Nat.zero_add] at hl1 hrun
 have HRUN:Hid ((Builtin.append_ #[45,3] 0 #[.slice none 0 0,.int .i64 k]).run Tryz.prog w=.ok (.slice (some ⟨w.heap.size,0,none⟩) k C1.length) w1):=jh hrun
 have HO:Hid (Own w1 w.heap.size (.slice (some ⟨w.heap.size,0,none⟩) 0 C1.length) []):=jh (.inr ⟨_,C1,rfl,Nat.le_refl _,hR1,hp1,hm1⟩)
 have HC:=jh hc1
 unfold maxLen at hm1
 clear hrun hR1 hp1 hc1
 go_enter Tryz.func115,Tryz.ntmps115
 go_wp2_with (at_builtin;refine Lib.wpList_append_run _ rfl _ _ _ _ rfl _ _ rfl rfl _ _ HRUN.out ?_)
 go_ret
 exact⟨_,rfl,HO.out,HC.out⟩
theorem concat_gen (X Y:List Int) (ax:Option Addr) (gx ox cx hy cy q:Nat) (w:World) (hx:BytesAt w gx ox X) (hax:0<X.length→ax=some ⟨gx,ox,none⟩) (hyr:BytesAt w hy 0 Y) (hyl:0<Y.length) (hxl:X.length≤100000000) (hyl2:Y.length≤100000000)
  (q0:w.cell? ⟨q,0,none⟩=some (.slice ax X.length cx)) (q1:w.cell? ⟨q,1,none⟩=some (.slice (some ⟨hy,0,none⟩) Y.length cy)) :
  Calls Tryz.prog 74 #[.slice (some ⟨q,0,none⟩) 2 2] w fun e w'=>∃ v,e=.returned v∧Own w' w.heap.size v (X++Y)∧Chg (fun _=>False) w w':=by
 have HX:=jh hx
 have HAX:=jh hax
 have HY:=jh hyr
 have HQ:Hid (∀ w',Chg (fun _=>False) w w'→w'.cell? ⟨q,0,none⟩=some (.slice ax X.length cx)∧w'.cell? ⟨q,1,none⟩=some (.slice (some ⟨hy,0,none⟩) Y.length cy)):=jh fun w' hc=>⟨hc.cellS q0 (fun h=>h),hc.cellS q1 (fun h=>h)⟩
 have HXB:=jh hx.byte
 have HYB:=jh hyr.byte
 clear hx hax hyr
 go_enter Tryz.func74,Tryz.ntmps74
 go_wp2_with fail
 go_loopw [3,11] (fun n i wr=>((i=.int .i64 0∧n=.int .i64 0)∨(i=.int .i64 1∧n=.int .i64 X.length)∨(i=.int .i64 2∧n=.int .i64 ((X.length:Int)+Y.length)))∧wr=w) (fun _ i _=>2-(intOf i).toNat)
 case atStart=>exact⟨.inl ⟨rfl,rfl⟩,rfl⟩
 case round =>
  obtain⟨h,rfl⟩:=hrel
  rcases h with ⟨rfl,rfl⟩|⟨rfl,rfl⟩|⟨rfl,rfl⟩
  ·go_wp2_with fail
   go_roundw
   case rel=>first|exact⟨.inr (.inl ⟨rfl,rfl⟩),rfl⟩|simp
   case measure=>simp [intOf]
  ·go_wp2_with fail
   go_roundw
   case rel=>first|exact⟨.inr (.inr ⟨rfl,rfl⟩),rfl⟩|simp
   case measure=>simp [intOf]
  ·clear q0 q1
   go_wp2_with fail
   have hsum:(X.length:Int)+Y.length=((X.length+Y.length:Nat):Int):=by omega
   rw [hsum]
   refine (grow_k wr (X.length+Y.length) (by omega) (by omega)).mono ?_
   rintro e w1 ⟨v1,rfl,h1,hc1⟩
   have H1:=jh h1
   have HC1:=jh hc1
   clear h1 hc1 hsum
   go_wp2_with fail
   obtain⟨wo,rfl⟩:∃ wo:World,wo=wr:=⟨_,rfl⟩
   go_loopw [6,27] (fun v i wr=>((i=.int .i64 0∧Own wr wo.heap.size v [])∨(i=.int .i64 1∧Own wr wo.heap.size v ([]++X))∨(i=.int .i64 2∧Own wr wo.heap.size v ([]++X++Y)))∧Chg (fun k=>wo.heap.size≤k) wo wr) (fun _ i _=>2-(intOf i).toNat)
   case atStart=>exact⟨.inl ⟨rfl,H1.out⟩,HC1.out.any⟩
   case round =>
    clear H1 HC1
    obtain⟨h,hc⟩:=hrel
    have HC:=jh hc
    obtain⟨q0,q1⟩:=HQ.out wr hc.fresh
    clear hc
    rcases h with ⟨rfl,ho⟩|⟨rfl,ho⟩|⟨rfl,ho⟩
    ·have HO:=jh ho
     clear ho
     go_wp2_with (at_builtin;refine wpList_append8 rfl _ _ 45 rfl wo.heap.size _ [] X (.slice ax X.length cx) rfl rfl HO.out HC.out.size (srcBytes (HX.out.chg HC.out.fresh (fun _ h=>h)) HAX.out) HXB.out (by simp;omega) ?_;intro v3 w3 K1 K2 K3)
     go_roundw
     case rel=>exact⟨.inr (.inl ⟨rfl,K1.out⟩),HC.out.trans K2.out⟩
     case measure=>simp [intOf]
    ·have HO:=jh ho
     clear ho
     go_wp2_with (at_builtin;refine wpList_append8 rfl _ _ 45 rfl wo.heap.size _ ([]++X) Y (.slice (some ⟨hy,0,none⟩) Y.length cy) rfl rfl HO.out HC.out.size (srcBytes (HY.out.chg HC.out.fresh (fun _ h=>h)) (fun _=>rfl)) HYB.out (by simp;omega) ?_;intro v3 w3 K1 K2 K3)
     go_roundw
     case rel=>exact⟨.inr (.inr ⟨rfl,K1.out⟩),HC.out.trans K2.out⟩
     case measure=>simp [intOf]
    ·have HO:=jh ho
     clear ho q0 q1
     go_wp2_with fail
     go_ret
     exact⟨_,rfl,HO.out,HC.out.fresh⟩
end Go.Proofs.YtgnpmceimpjheaaGreat
namespace Go.Proofs.YtgnpmceimpjheaaGreat
open Go.RowKit
def cellsPut:Int→List (Int × Int)→List Int
 | _,[]=>[]
 | last,c :: l=>(c.1-last) :: (c.2+1) :: cellsPut c.1 l
def lastOf (last:Int) (l:List (Int × Int)):Int:=l.foldl (fun _ c=>c.1) last
theorem lastOf_snoc (last:Int) (l:List (Int × Int)) (c:Int × Int):lastOf last (l++[c])=c.1:=by simp [lastOf]
theorem cellsPut_snoc:∀ (l:List (Int × Int)) (last:Int) (c:Int × Int),cellsPut last (l++[c])=cellsPut last l++[c.1-lastOf last l,c.2+1]
 | [],last,c=>rfl
 | x :: l,last,c=>by
  have:=cellsPut_snoc l x.1 c
  simp only [List.cons_append,cellsPut,this]
  rfl
def rowPut (r:RowD):List Int:=(r.1+1) :: (r.2.length:Int) :: cellsPut 0 r.2
def tabNums:TabD→List Int
 | (W,R,O)=>W :: (R.length:Int) :: (R.flatMap rowPut++(O.length:Int) :: O)
def bytesOf (L:List Int):List Int:=L.flatMap (fun n=>putL n.toNat)
def putTab (t:TabD):List Int:=bytesOf (tabNums t)
theorem bytesOf_append (X Y:List Int):bytesOf (X++Y)=bytesOf X++bytesOf Y:=by simp [bytesOf]
theorem bytesOf_snoc (X:List Int) (z:Int):bytesOf (X++[z])=bytesOf X++putL z.toNat:=by simp [bytesOf]
theorem bytesOf_byte (X:List Int):∀ a∈bytesOf X,Byte a:=fun a ha=>by
 obtain⟨n,_,h⟩:=List.mem_flatMap.1 ha
 exact putL_byte _ a h
theorem bytesOf_len (X:List Int) (h:∀ n∈X,0≤n∧n<4294967296):(bytesOf X).length≤5 * X.length:=by
 induction X with
 | nil=>simp [bytesOf]
 | cons x X ih =>
  have h1:=ih (fun n hn=>h n (by simp [hn]))
  have h2:=h x (by simp)
  have h3:bytesOf (x :: X)=putL x.toNat++bytesOf X:=by simp [bytesOf]
  have h4:=putL_len5 (n:=x.toNat) (by omega)
  rw [h3,List.length_append,List.length_cons]
  omega
theorem bytesOf_pos {X:List Int} (h:X≠[]):0<(bytesOf X).length:=by
 cases X with
 | nil=>exact absurd rfl h
 | cons x X =>
  have h3:bytesOf (x :: X)=putL x.toNat++bytesOf X:=by simp [bytesOf]
  rw [h3,List.length_append]
  have:=putL_pos x.toNat
  omega
structure Fld8 (br:Nat) (w:World) (v:Value) (X:List Int):Prop where
 c:w.cell? ⟨br,0,none⟩=some v
 z:w.frozen? ⟨br,0,none⟩=false
 own:Own w (br+1) v X
theorem Fld8.lt {br:Nat} {w:World} {v:Value} {X:List Int} (h:Fld8 br w v X):br<w.heap.size:=World.block_lt_of_cell? _ _ h.c
theorem Fld8.chg {S:Nat→Prop} {br:Nat} {w w':World} {v:Value} {X:List Int} (h:Fld8 br w v X) (hc:Chg S w w') (hs:∀ g,br≤g→g<w.heap.size→¬ S g):Fld8 br w' v X :=
 ⟨hc.cellS h.c (hs br (Nat.le_refl _) h.lt),(hc.frozen (p:=⟨br,0,none⟩) h.lt (hs br (Nat.le_refl _) h.lt)).trans h.z,h.own.chg hc (fun g hg=>hs g (by omega))⟩
theorem Fld8.step {br:Nat} {w w1:World} {v v':Value} {X X':List Int} (h:Fld8 br w v X) (ho:Own w1 (br+1) v' X') (hc:Chg (fun k=>br+1≤k) w w1) :
  (w1.cell? ⟨br,0,none⟩=some v∧w1.frozen? ⟨br,0,none⟩=false)∧Fld8 br (w1.setCell ⟨br,0,none⟩ v') v' X'∧Chg (fun k=>br≤k) w (w1.setCell ⟨br,0,none⟩ v'):=by
 have hlt:=h.lt
 have c1:=hc.cellS h.c (by show ¬ br+1≤br;omega)
 have z1:=(hc.frozen (p:=⟨br,0,none⟩) hlt (by show ¬ br+1≤br;omega)).trans h.z
 exact⟨⟨c1,z1⟩,⟨World.cell?_setCell_same _ _ _ c1,(World.frozen?_setCell _ _ _ _).trans z1,ho.chg (setCellChg _ _ _ _) (fun g hg _ e=>by omega)⟩,(hc.mono (fun k _ e=>by omega)).trans ((setCellChg w1 br 0 v').mono (fun k _ e=>by omega))⟩
theorem ownBlk {w:World} {B:Nat} {v:Value} {X:List Int} (h:Own w B v X) {g:Nat} (hg:v.ownBlock=some g):B≤g∧g<w.heap.size:=Elt.Own.blk (byteOwn.2 h) hg
theorem Own.shape3 {w:World} {B:Nat} {v:Value} {X:List Int} (h:Own w B v X):∃ a n c,v=.slice a n c:=by
 obtain⟨a,c,h⟩:=h.shape
 exact⟨a,_,c,h⟩
theorem putFn_any (z:Int) (bo:Nat) (v:Value) (X:List Int) (w:World) (h:Fld8 bo w v X) (hz:0≤z∧z<4294967296) (hl:X.length≤1000000000) :
  Calls Tryz.prog 158 #[.int .i64 z,.pointer (some ⟨bo,0,none⟩)] w fun e w'=>∃ v',e=.returned (.tuple #[])∧Fld8 bo w' v' (X++putL z.toNat)∧Chg (fun k=>k=bo∨v.ownBlock=some k) w w'∧(∀ g,v'.ownBlock=some g→v.ownBlock=some g∨w.heap.size≤g):=by
 obtain⟨n,rfl⟩:=Int.eq_ofNat_of_zero_le hz.1
 have hn:n<4294967296:=by omega
 rw [Int.toNat_natCast]
 clear hz
 have HF:=jh h
 have hbl:=h.lt
 obtain⟨va,vl,vc,rfl⟩:=h.own.shape3
 obtain⟨wd,hwd⟩:∃ wd,wd=w.drew:=⟨_,rfl⟩
 have HWD:Hid (Chg (fun _=>False) w wd):=jh (by rw [hwd];exact (Chg.refl _ _).drew)
 have HWE:Hid (w.drew=wd):=jh hwd.symm
 have HFD:=jh (HF.out.chg HWD.out (fun _ _ _ h=>h))
 have hw5:IntKind.u32.wrap (n:Int)=n:=by rw [IntKind.wrap_u32];omega
 clear h hwd
 go_enter Tryz.func158,Tryz.ntmps158
 refine wp_region_late (fun x=>Chg (fun j=>bo+1≤j) wd x) (fun i=>decide (i=5)) (by kernel_rfl) ?_
 show wpAnyL _ _ _ _ _ _ 6 (Array.replicate 6 false) _ w.drew
 rw [HWE.out]
 have HSS:Hid (Chg (fun j=>bo+1≤j) wd wd):=jh (Chg.refl _ _)
 (refine lrd 0 HSS.out fun K hK=>?_;apply ei;intro w' hC;((have q:=hC.cellS HFD.out.c (show ¬ bo+1≤bo by omega));go_simp;try with_reducible rfl);(try go_simp);refine hK _ ?_;clear hK K)
 (refine lrd 1 HSS.out fun K hK=>?_;apply ei;intro w' hC;(go_simp;try with_reducible rfl);(try go_simp);refine hK _ ?_;clear hK K)
 (refine lrd 2 HSS.out fun K hK=>?_;apply ei;intro w' hC;(go_simp;try with_reducible rfl);(try go_simp);refine hK _ ?_;clear hK K)
 refine late_call (i:=3) (by kernel_rfl) rfl rfl 62 #[.slice none 0 0,.int .u32 n] (fun u w''=>∃ h,u=.slice (some ⟨h,0,none⟩) ([]++putL n).length ([]++putL n).length∧Row w'' h ([]++putL n)∧Chg (fun _=>False) wd w'') (by go_simp) ?_ ?_
 ·refine (put_any [] n none 0 0 0 wd ⟨fun k a hk=>by simp at hk,fun h=>(h rfl).elim⟩ (fun h=>by simp at h) (by simp) hn).mono ?_
  rintro e w2 ⟨h,rfl,_,h2,h3⟩
  exact⟨_,rfl,fun _=>h3.any,h,rfl,h2,h3⟩
 rintro u w2 hs2 ⟨h,rfl,hr,hc⟩ K hK
 have HSS:=jh (hs2 (by decide))
 have HF2:=jh (HFD.out.chg hc (fun _ _ _ h=>h))
 have HR:=jh hr
 have HC:=jh hc
 rw [List.nil_append] at HR ⊢
 obtain⟨PL,hPL⟩:∃ PL,(putL n).length=PL:=⟨_,rfl⟩
 have HPL:=jh hPL
 rw [hPL]
 clear hs2 hr hc hPL
 (try go_simp)
 refine hK _ ?_
 clear hK K
 refine late_append (i:=4) (by kernel_rfl) rfl rfl (.tmp 3) (.tmp 6) 45 45 rfl (.slice va vl vc) (.slice (some ⟨h,0,none⟩) PL PL) rfl rfl (fun v' w1=>Own w1 (bo+1) v' (X++putL n)∧Chg (fun j=>bo+1≤j) w2 w1∧Chg (fun k=>(Value.slice va vl vc).ownBlock=some k) w2 w1∧(v'.ownBlock=(Value.slice va vl vc).ownBlock∨v'.ownBlock=some w2.heap.size)) ?_ ?_
 ·have hsrc:=srcBytes (c:=PL) (HR.out.bytes (List.prefix_refl _)) (fun _=>rfl)
  rw [HPL.out] at hsrc
  have h5:=putL_len5 hn
  obtain⟨v',w1,hrun,h1,h2,⟨h3,h4⟩,-⟩:=(byteOwn.2 HF2.out.own).append (by have:=HF2.out.lt;omega) 45 (.slice (some ⟨h,0,none⟩) PL PL) (putL n) (by rw [HPL.out,byteEncs];exact hsrc) (putL_byte n) (by omega) 45
  exact⟨v',w1,hrun,fun _=>HSS.out.trans h2,byteOwn.1 h1,h2,h3,h4⟩
 rintro v' w1 hs ⟨h1,h2,h3,h4⟩ K hK
 obtain⟨va',vl',vc',hv'⟩:=h1.shape3
 subst hv'
 obtain⟨⟨k1,k2⟩,hf1,hf2⟩:=HF2.out.step h1 h2
 have HFF:=jh hf1
 have HCF:Hid (Chg (fun k=>k=bo∨(Value.slice va vl vc).ownBlock=some k) w (w1.setCell ⟨bo,0,none⟩ (.slice va' vl' vc'))):=jh (((HWD.out.any.trans HC.out.any).trans (h3.mono (fun k _ e=>.inr e))).trans ((setCellChg w1 bo 0 _).mono (fun k _ e=>.inl e)))
 have HBK:Hid (∀ g,(Value.slice va' vl' vc').ownBlock=some g→(Value.slice va vl vc).ownBlock=some g∨w.heap.size≤g):=jh (fun g hg=>by
  rcases h4 with h4|h4
  ·rw [h4] at hg;exact .inl hg
  ·rw [h4] at hg
   obtain rfl:=Option.some.inj hg
   exact .inr (HWD.out.trans HC.out).size)
 clear hf1 hf2 h1 h2 h3 h4 hs
 (try go_simp)
 refine hK _ ?_
 clear hK K
 (refine late_store (i:=5) (by kernel_rfl) rfl rfl fun K hK=>?_;apply Exists.intro;refine⟨?_,(fun h=>absurd h (by decide)),?_⟩;(go_simp;try first|with_reducible rfl|exact⟨rfl,rfl⟩);(try go_simp);refine hK _ _ ?_;clear hK K)
 refine late_done (by kernel_rfl) ?_ _
 go_wp2
 go_end0
 exact⟨_,rfl,HFF.out,HCF.out,HBK.out⟩
end Go.Proofs.YtgnpmceimpjheaaGreat
namespace Go.Proofs.YtgnpmceimpjheaaGreat
open Go.RowKit
theorem cellsPut_append:∀ (X Y:List (Int × Int)) (last:Int),cellsPut last (X++Y)=cellsPut last X++cellsPut (lastOf last X) Y
 | [],Y,last=>rfl
 | x :: X,Y,last=>by
  have:=cellsPut_append X Y x.1
  simp only [List.cons_append,cellsPut,this]
  rfl
theorem cellsPut_ok {W:Nat} {d:Int} (hW:W≤65536):∀ (l:List (Int × Int)) (lf lp:Int),fineCells W d lf l=true→lp≤lf+1→0≤lp→∀ n∈cellsPut lp l,0≤n∧n<4294967296
 | [],_,_,_,_,_,n,hn=>by cases hn
 | c :: l,lf,lp,h,h1,h2,n,hn=>by
  simp only [fineCells,Bool.and_eq_true,decide_eq_true_eq] at h
  obtain⟨⟨⟨⟨g1,g2⟩,g3⟩,-⟩,g5⟩:=h
  simp only [cellsPut,List.mem_cons] at hn
  rcases hn with rfl|rfl|hn
  ·omega
  ·omega
  ·exact cellsPut_ok hW l c.1 c.1 g5 (by omega) (by omega) n hn
theorem fine_bounds {W:Nat} {r:RowD} (hW:W≤65536) (h:fineL W r=true):isVal r.1∧r.2.length≤W∧∀ n∈rowPut r,0≤n∧n<4294967296:=by
 obtain⟨d,cs⟩:=r
 by_cases h0:W=0
 ·subst h0
  simp only [fineL,if_true,Bool.and_eq_true,decide_eq_true_eq] at h
  obtain⟨rfl,rfl⟩:=h
  refine⟨by decide,Nat.le_refl _,fun n hn=>?_⟩
  simp [rowPut,cellsPut] at hn
  subst hn
  omega
 ·simp only [fineL,if_neg h0,Bool.and_eq_true,decide_eq_true_eq] at h
  obtain⟨⟨⟨h1,-⟩,h3⟩,h4⟩:=h
  refine⟨h3,by show cs.length≤W;omega,fun n hn=>?_⟩
  simp only [rowPut,List.mem_cons] at hn
  rcases hn with rfl|rfl|hn
  ·show 0≤d+1∧d+1<4294967296
   omega
  ·show 0≤(cs.length:Int)∧(cs.length:Int)<4294967296
   omega
  ·exact cellsPut_ok hW cs (-1) 0 h1 (by omega) (by omega) n hn
theorem nextL_mem:∀ (l:List Int) (next m r:Int),nextL next m l=some r→∀ i∈l,0≤i∧i<m
 | [],_,_,_,_,i,hi=>by cases hi
 | x :: l,next,m,r,h,i,hi=>by
  simp only [nextL] at h
  split at h
  ·cases h
  ·rcases List.mem_cons.1 hi with rfl|hi
   ·omega
   ·exact nextL_mem l _ m r h i hi
theorem tabNums_ok {W:Int} {R:List RowD} {O:List Int} (h:mayL (W,R,O)=true):(∀ n∈tabNums (W,R,O),0≤n∧n<4294967296)∧R.length≤O.length:=by
 obtain⟨h1,h2,h3,h4⟩:=mayL_spec h
 have hle:=nextL_le O 0 R.length _ h2
 refine⟨fun n hn=>?_,by omega⟩
 simp only [tabNums,List.mem_cons,List.mem_append,List.mem_flatMap] at hn
 rcases hn with rfl|rfl|⟨r,hr,hn⟩|rfl|hn
 ·omega
 ·omega
 ·exact (fine_bounds (by omega) (h3 r hr)).2.2 n hn
 ·omega
 ·have:=nextL_mem O 0 R.length _ h2 n hn
  omega
theorem rowSplit {W:Int} {R:List RowD} {O:List Int} {k:Nat} {r:RowD} (h:R[k]?=some r):tabNums (W,R,O)=(W :: (R.length:Int) :: (R.take k).flatMap rowPut)++(rowPut r++((R.drop (k+1)).flatMap rowPut++(O.length:Int) :: O)):=by
 have h1:=(List.getElem?_eq_some_iff.1 h).1
 have h2:R=R.take k++r :: R.drop (k+1):=by
  rw [← (List.getElem?_eq_some_iff.1 h).2,← List.drop_eq_getElem_cons h1,List.take_append_drop]
 simp only [tabNums]
 rw [show R.flatMap rowPut=(R.take k++r :: R.drop (k+1)).flatMap rowPut by rw [← h2]]
 simp
theorem cellSplit {d:Int} {cs:List (Int × Int)} {j:Nat} {c:Int × Int} (h:cs[j]?=some c):rowPut (d,cs)=((d+1) :: (cs.length:Int) :: cellsPut 0 (cs.take j))++((c.1-lastOf 0 (cs.take j)) :: (c.2+1) :: cellsPut c.1 (cs.drop (j+1))):=by
 have h1:=(List.getElem?_eq_some_iff.1 h).1
 have h2:cs=cs.take j++c :: cs.drop (j+1):=by
  rw [← (List.getElem?_eq_some_iff.1 h).2,← List.drop_eq_getElem_cons h1,List.take_append_drop]
 simp only [rowPut]
 rw [show cellsPut 0 cs=cellsPut 0 (cs.take j++c :: cs.drop (j+1)) by rw [← h2],cellsPut_append]
 simp [cellsPut]
theorem offSplit {W:Int} {R:List RowD} {O:List Int} {k:Nat} {i:Int} (h:O[k]?=some i):tabNums (W,R,O)=((W :: (R.length:Int) :: R.flatMap rowPut)++[(O.length:Int)]++O.take k)++(i :: O.drop (k+1)):=by
 have h1:=(List.getElem?_eq_some_iff.1 h).1
 simp only [tabNums]
 rw [← (List.getElem?_eq_some_iff.1 h).2,← List.drop_eq_getElem_cons h1]
 simp
structure Apart1 (bo:Nat) (w:World) (v:Value) (b:Nat):Prop where
 ne:b≠bo
 lt:b<w.heap.size
 out:∀ g,v.ownBlock=some g→g≠b
theorem Apart1.next {bo:Nat} {w w':World} {v v':Value} {b:Nat} (h:Apart1 bo w v b) {S:Nat→Prop} (hc:Chg S w w') (hb:∀ g,v'.ownBlock=some g→v.ownBlock=some g∨w.heap.size≤g):Apart1 bo w' v' b :=
 ⟨h.ne,Nat.lt_of_lt_of_le h.lt hc.size,fun g hg e=>by
  rcases hb g hg with h1|h1
  ·exact h.out g h1 e
  ·have:=h.lt;omega⟩
theorem Apart1.keep {bo : Nat} {w w' : World} {v : Value} {b : Nat} (h : Apart1 bo w v b) (hc : Chg (fun k => k = bo ∨ v.ownBlock = some k) w w') {j : Nat} {u : Value} (hu : w.cell? ⟨b, j, none⟩ = some u) : w'.cell? ⟨b, j, none⟩ = some u :=
  hc.cellS hu (fun e => by rcases e with e|e; · exact h.ne e
                           · exact h.out _ e rfl)
structure PutSt (w0:World) (bo:Nat) (w:World) (v:Value) (N:List Int):Prop where
 fld:Fld8 bo w v (bytesOf N)
 chg:Chg (fun k=>bo≤k) w0 w
theorem PutSt.put {w0:World} {bo:Nat} {w w':World} {v v':Value} {N:List Int} {z:Int} (h:PutSt w0 bo w v N) (hf:Fld8 bo w' v' (bytesOf N++putL z.toNat)) (hc:Chg (fun k=>k=bo∨v.ownBlock=some k) w w'):PutSt w0 bo w' v' (N++[z]) :=
 ⟨by rw [bytesOf_snoc];exact hf,h.chg.trans (hc.mono (fun k _ e=>by
  rcases e with e|e
  ·omega
  ·have:=(ownBlk h.fld.own e).1;omega))⟩
theorem PutSt.alloc {w0:World} {bo:Nat} {w:World} {v:Value} {N:List Int} (h:PutSt w0 bo w v N) (o:Obj):PutSt w0 bo (w.alloc o) v N :=
 ⟨h.fld.chg ((Chg.refl (fun _=>False) w).alloc o) (fun _ _ _ h=>h),h.chg.alloc o⟩
theorem PutSt.fresh {w0:World} {bo:Nat} {w:World} {v:Value} {N:List Int} (h:PutSt w0 bo w v N) (o:Obj):Apart1 bo (w.alloc o) v w.heap.size :=
 ⟨by have:=h.fld.lt;omega,by simp,fun g hg e=>by have:=(ownBlk h.fld.own hg).2;omega⟩
theorem put_ok (Z:List Int) (W:Int) (R:List RowD) (O:List Int) (ra oa ab:Option Addr) (rc oc cb gb ob B g o:Nat) (w:World) (hW:I.Byte W) (hR:RowsIn cellE rowE w B (ra,R.length,rc) R) (hrl:R.length≤100000000) (hcl:∀ r∈R,r.2.length≤1000000000)
  (hO:I.BytesAt w g o O) (ha:0<O.length→oa=some ⟨g,o,none⟩) (hol:O.length≤100000000) (hm:mayL (W,R,O)=true)
  (hb:BytesAt w gb ob Z) (hab:0<Z.length→ab=some ⟨gb,ob,none⟩) (hzl:Z.length≤1000000) (hN:(tabNums (W,R,O)).length≤10000000) :
  Calls Tryz.prog 117 #[.slice ab Z.length cb,.agg #[.int .i64 W,.slice ra R.length rc,.slice oa O.length oc]] w fun e w'=>∃ h,e=.returned (.tuple #[.slice (some ⟨h,0,none⟩) (Z++putTab (W,R,O)).length (Z++putTab (W,R,O)).length,.int .i64 0])∧w.heap.size≤h∧Row w' h (Z++putTab (W,R,O))∧Chg (fun _=>False) w w':=by
 have HC0:=jh ((Chg.refl (fun _=>False) w).alloc (.cells #[.int .i64 W,.slice ra R.length rc,.slice oa O.length oc] 201))
 have HB0:Hid (∀ wr,Chg (fun _=>False) (w.alloc (.cells #[.int .i64 W,.slice ra R.length rc,.slice oa O.length oc] 201)) wr→wr.cell? ⟨w.heap.size,0,none⟩=some (.int .i64 W)∧wr.cell? ⟨w.heap.size,1,none⟩=some (.slice ra R.length rc)∧wr.cell? ⟨w.heap.size,2,none⟩=some (.slice oa O.length oc)∧w.heap.size<wr.heap.size):=jh fun wr hc =>
  ⟨hc.cellS (by simp) (fun h=>h),hc.cellS (by simp) (fun h=>h),hc.cellS (by simp) (fun h=>h),by have:=hc.size;simp at this;omega⟩
 have HR:=jh hR
 have HO:=jh hO
 have HA:=jh ha
 have HCL:=jh hcl
 have HM:=jh hm
 have HBZ:=jh hb
 have HAB:=jh hab
 have HT:=jh (tabNums_ok hm).1
 have HRO:=jh (tabNums_ok hm).2
 have HNL:=jh hN
 have HBL:Hid (∀ (P S:List Int),tabNums (W,R,O)=P++S→(bytesOf P).length≤100000000):=jh fun P S h=>by
  have:=bytesOf_len P (fun n hn=>HT.out n (by rw [h];simp [hn]))
  have h2:=congrArg List.length h
  simp only [List.length_append] at h2
  omega
 have HWT:=jh (HT.out W (by simp [tabNums]))
 have HRT:=jh (HT.out R.length (by simp [tabNums]))
 have HOT:=jh (HT.out O.length (by simp [tabNums]))
 clear hR hO ha hcl hm hb hab hN
 go_enter Tryz.func117,Tryz.ntmps117
 go_wp2_with fail
 refine (may_any W R O ra oa rc oc B g o _ hW (HR.out.same HC0.out) hrl HCL.out (HO.out.chg HC0.out (fun _ h=>h)) HA.out hol).mono ?_
 rintro e w2 ⟨rfl,hc2⟩
 rw [HM.out]
 obtain⟨b0,b1,b2,hb3⟩:=HB0.out w2 hc2
 have HC2:=jh (HC0.out.trans hc2)
 have HS0:Hid (PutSt w2 w2.heap.size (w2.alloc (.cells #[.slice none 0 0] 45)) (.slice none 0 0) []):=jh ⟨⟨by rw [World.cell?_alloc_new];rfl,World.frozen?_alloc_new _ _ _ _,.inl ⟨rfl,rfl⟩⟩,(Chg.refl _ _).alloc _⟩
 have HBB:Hid (∀ wr,Chg (fun k=>w2.heap.size≤k) w2 wr→wr.cell? ⟨w.heap.size,0,none⟩=some (.int .i64 W)∧wr.cell? ⟨w.heap.size,1,none⟩=some (.slice ra R.length rc)∧wr.cell? ⟨w.heap.size,2,none⟩=some (.slice oa O.length oc)):=jh fun wr hc =>
  ⟨hc.cellS b0 (by show ¬ w2.heap.size≤w.heap.size;omega),hc.cellS b1 (by show ¬ w2.heap.size≤w.heap.size;omega),hc.cellS b2 (by show ¬ w2.heap.size≤w.heap.size;omega)⟩
 obtain⟨wb,hwb⟩:∃ wb,wb=w2.alloc (.cells #[.slice none 0 0] 45):=⟨_,rfl⟩
 have HWB:=jh hwb
 rw [← hwb] at HS0
 obtain⟨b0,b1,b2⟩:=HBB.out (w2.alloc (.cells #[.slice none 0 0] 45)) ((Chg.refl _ _).alloc _)
 rw [hwb] at HS0
 clear hc2 HB0 hwb HWB
 go_wp2_with fail
 refine (putFn_any (W) _ _ _ _ HS0.out.fld (HWT.out) (Nat.le_trans (HBL.out _ (tabNums (W,R,O)) (rfl)) (by omega))).mono ?_
 rintro e w3 ⟨v3,rfl,hf3,hc3,hk3⟩
 have HS1:=jh (HS0.out.put hf3 hc3)
 clear hf3 hc3 hk3
 obtain⟨b0,b1,b2⟩:=HBB.out w3 HS1.out.chg
 clear HS0
 go_wp2_with fail
 refine (putFn_any ((R.length:Int)) _ _ _ _ HS1.out.fld (HRT.out) (Nat.le_trans (HBL.out _ (R.length :: (R.flatMap rowPut++(O.length:Int) :: O)) (rfl)) (by omega))).mono ?_
 rintro e w4 ⟨v4,rfl,hf3,hc3,hk3⟩
 have HS2:=jh (HS1.out.put hf3 hc3)
 clear hf3 hc3 hk3
 obtain⟨b0,b1,b2⟩:=HBB.out w4 HS2.out.chg
 clear HS1
 go_wp2_with fail
 go_loopw [31] (fun q wr=>∃ (k:Nat) (v:Value),k≤R.length∧q=.int .i64 k∧PutSt w2 w2.heap.size wr v (W :: (R.length:Int) :: (R.take k).flatMap rowPut)) (fun q _=>R.length-(intOf q).toNat)
 case atStart=>exact⟨0,v4,by omega,rfl,by simpa using HS2.out⟩
 case round =>
  clear HS2 b0 b1 b2
  obtain⟨k,v,hk,rfl,hs⟩:=hrel
  have HS:=jh hs
  obtain⟨b0,b1,b2⟩:=HBB.out wr hs.chg
  have HCW:=jh (HC2.out.trans (hs.chg.fresh))
  clear hs
  by_cases hkl:k<R.length
  ·have b32:decide ((k:Int)<(R.length:Int))=true:=by simp;omega
   obtain⟨r,g',o',xa,xc,hr,rfl,c0,c1,hrb,hin,-,-⟩:=HR.out.get rfl (fun _=>rfl) hkl
   obtain⟨rd,rl⟩:=r
   simp only at c0 c1 hin hrb
   have c0:=HCW.out.cellS c0 (fun h=>h)
   have c1:=HCW.out.cellS c1 (fun h=>h)
   have HRK:=jh hr
   have HIN:=jh hin
   have HRL:=jh (HCL.out _ (List.mem_of_getElem? hr))
   have HSP:=jh (rowSplit (W:=W) (O:=O) hr)
   have hdb:=HT.out (rd+1) (by rw [HSP.out];simp [rowPut])
   have hlb:=HT.out (rl.length:Int) (by rw [HSP.out];simp [rowPut])
   have HTK:Hid (R.take (k+1)=R.take k++[(rd,rl)]):=jh (by rw [List.take_add_one,hr];rfl)
   obtain⟨hdb0,hdb1⟩:=hdb
   have HDB:=jh (And.intro hdb0 hdb1)
   have HLB:=jh hlb
   have HSA:=jh (HS.out.alloc (.cells #[.int .i64 rd,.slice xa rl.length xc] 241))
   have HAP:=jh (HS.out.fresh (.cells #[.int .i64 rd,.slice xa rl.length xc] 241))
   have r0:(wr.alloc (.cells #[.int .i64 rd,.slice xa rl.length xc] 241)).cell? ⟨wr.heap.size,0,none⟩=some (.int .i64 rd):=by rw [World.cell?_alloc_new];rfl
   have r1:(wr.alloc (.cells #[.int .i64 rd,.slice xa rl.length xc] 241)).cell? ⟨wr.heap.size,1,none⟩=some (.slice xa rl.length xc):=by rw [World.cell?_alloc_new];rfl
   obtain⟨rb,hrbx⟩:∃ rb,rb=wr.heap.size:=⟨_,rfl⟩
   clear hr hin hrb hlb
   go_wp2_with fail
   refine (putFn_any (rd+1) _ _ _ _ HSA.out.fld (HDB.out) (Nat.le_trans (HBL.out _ (_) (by exact HSP.out)) (by omega))).mono ?_
   rintro e w5 ⟨v5,rfl,hf3,hc3,hk3⟩
   have HS5:=jh (HSA.out.put hf3 hc3)
   have HAP5:=jh (HAP.out.next hc3 hk3)
   have r05:=HAP.out.keep hc3 r0
   have r15:=HAP.out.keep hc3 r1
   clear hf3 hc3 hk3
   clear HSA HAP r0 r1
   go_wp2_with fail
   refine (putFn_any ((rl.length:Int)) _ _ _ _ HS5.out.fld (HLB.out) (Nat.le_trans (HBL.out _ ((rl.length:Int) :: cellsPut 0 rl++((R.drop (k+1)).flatMap rowPut++(O.length:Int) :: O)) (by rw [HSP.out];simp [rowPut])) (by omega))).mono ?_
   rintro e w6 ⟨v6,rfl,hf3,hc3,hk3⟩
   have HS6:=jh (HS5.out.put hf3 hc3)
   have HAP6:=jh (HAP5.out.next hc3 hk3)
   have r06:=HAP5.out.keep hc3 r05
   have r16:=HAP5.out.keep hc3 r15
   clear hf3 hc3 hk3
   clear HS5 HAP5 r05 r15
   go_wp2_with fail
   have HRLE:Hid (rl.length≤1000000000):=HRL
   clear b0 b1 b2 r06 r16 HAP6 c0 c1 b32 hrbx rb
   obtain⟨wi,rfl⟩:∃ wi:World,wi=wr:=⟨_,rfl⟩
   go_loopw [10,48] (fun lv q wr=>∃ (j:Nat) (v:Value),j≤rl.length∧q=.int .i64 j∧lv=.int .i64 (lastOf 0 (rl.take j))∧PutSt w2 w2.heap.size wr v ((W :: (R.length:Int) :: (R.take k).flatMap rowPut)++[rd+1]++[(rl.length:Int)]++cellsPut 0 (rl.take j))) (fun _ q _=>rl.length-(intOf q).toNat)
   case atStart=>exact⟨0,v6,by omega,rfl,rfl,by simpa [cellsPut] using HS6.out⟩
   case round =>
    clear HS6 HS
    obtain⟨j,v,hj,rfl,rfl,hs⟩:=hrel
    have HS:=jh hs
    have HCJ:=jh (HC2.out.trans (hs.chg.fresh))
    have hrl9:=HRLE.out
    clear hs
    by_cases hjl:j<rl.length
    ·have b49:decide ((j:Int)<(rl.length:Int))=true:=by simp;omega
     obtain⟨x,gx,ox,u,vv,hx,rfl,hp,c0,c1,hok,-,-⟩:=(HIN.out.same HCJ.out).get2 rfl hjl
     obtain⟨rfl,rfl⟩:=pairOf hp
     obtain⟨x0,x1⟩:=x
     obtain⟨⟨p0,p1⟩,⟨p2,p3⟩⟩:=hok
     simp only at c0 c1 p0 p1 p2 p3
     have HCS:=jh (cellSplit (d:=rd) hx)
     have HSN:Hid (cellsPut 0 (rl.take (j+1))=cellsPut 0 (rl.take j)++[x0-lastOf 0 (rl.take j),x1+1]):=jh (by rw [List.take_add_one,hx];exact cellsPut_snoc _ _ _)
     have HLN:Hid (lastOf 0 (rl.take (j+1))=x0):=jh (by rw [List.take_add_one,hx];exact lastOf_snoc _ _ _)
     have hd0:=HT.out (x0-lastOf 0 (rl.take j)) (by rw [HSP.out,HCS.out];simp)
     have hd1:=HT.out (x1+1) (by rw [HSP.out,HCS.out];simp)
     obtain⟨lz,hlz⟩:∃ lz,lastOf 0 (rl.take j)=lz:=⟨_,rfl⟩
     rw [hlz] at HSN hd0 HCS ⊢
     have HD0:=jh hd0
     have HD1:=jh hd1
     obtain⟨e0,e1⟩:=hd0
     obtain⟨e2,e3⟩:=hd1
     have HPRE:Hid (tabNums (W,R,O)=((W :: (R.length:Int) :: (R.take k).flatMap rowPut)++[rd+1]++[(rl.length:Int)]++cellsPut 0 (rl.take j))++((x0-lz) :: (x1+1) :: cellsPut x0 (rl.drop (j+1))++((R.drop (k+1)).flatMap rowPut++(O.length:Int) :: O))):=jh (by rw [HSP.out,HCS.out];simp)
     have HSA:=jh (HS.out.alloc (.cells #[.int .i64 x0,.int .i64 x1] 246))
     have HAP:=jh (HS.out.fresh (.cells #[.int .i64 x0,.int .i64 x1] 246))
     have r0:(wr.alloc (.cells #[.int .i64 x0,.int .i64 x1] 246)).cell? ⟨wr.heap.size,0,none⟩=some (.int .i64 x0):=by rw [World.cell?_alloc_new];rfl
     have r1:(wr.alloc (.cells #[.int .i64 x0,.int .i64 x1] 246)).cell? ⟨wr.heap.size,1,none⟩=some (.int .i64 x1):=by rw [World.cell?_alloc_new];rfl
     clear hx hp hlz HCS
     go_wp2_with fail
     refine (putFn_any (x0-lz) _ _ _ _ HSA.out.fld (HD0.out) (Nat.le_trans (HBL.out _ (_) (by exact HPRE.out)) (by omega))).mono ?_
     rintro e w5 ⟨v5,rfl,hf3,hc3,hk3⟩
     have HS5:=jh (HSA.out.put hf3 hc3)
     have HAP5:=jh (HAP.out.next hc3 hk3)
     have r05:=HAP.out.keep hc3 r0
     have r15:=HAP.out.keep hc3 r1
     clear hf3 hc3 hk3
     clear HSA HAP r0 r1
     go_wp2_with fail
     refine (putFn_any (x1+1) _ _ _ _ HS5.out.fld (HD1.out) (Nat.le_trans (HBL.out _ ((x1+1) :: cellsPut x0 (rl.drop (j+1))++((R.drop (k+1)).flatMap rowPut++(O.length:Int) :: O)) (by rw [HPRE.out];simp)) (by omega))).mono ?_
     rintro e w6 ⟨v6,rfl,hf3,hc3,hk3⟩
     have HS6:=jh (HS5.out.put hf3 hc3)
     have HAP6:=jh (HAP5.out.next hc3 hk3)
     have r06:=HAP5.out.keep hc3 r05
     have r16:=HAP5.out.keep hc3 r15
     clear hf3 hc3 hk3
     clear HS5 HAP5 r05 r15
     go_wp2
     go_roundw
     case rel=>exact⟨j+1,_,by omega,by go_num,by rw [HLN.out],by rw [HSN.out];simpa using HS6.out⟩
     case measure=>simp [intOf];omega
    ·obtain rfl:j=rl.length:=by omega
     have HSX:Hid (PutSt w2 w2.heap.size wr v (W :: (R.length:Int) :: (R.take (k+1)).flatMap rowPut)):=jh (by
      have:=HS.out
      rw [List.take_length] at this
      rw [HTK.out]
      simpa [rowPut] using this)
     clear HS
     go_wp2
     go_roundw
     case rel=>exact⟨k+1,v,by omega,by go_num,HSX.out⟩
     case measure=>simp [intOf];omega
  ·obtain rfl:k=R.length:=by omega
   have HSX:Hid (PutSt w2 w2.heap.size wr v (W :: (R.length:Int) :: R.flatMap rowPut)):=jh (by have:=HS.out;rwa [List.take_length] at this)
   clear HS
   go_wp2_with fail
   refine (putFn_any ((O.length:Int)) _ _ _ _ HSX.out.fld (HOT.out) (Nat.le_trans (HBL.out _ ((O.length:Int) :: O) (by simp [tabNums])) (by omega))).mono ?_
   rintro e w4 ⟨v4,rfl,hf3,hc3,hk3⟩
   have HS2:=jh (HSX.out.put hf3 hc3)
   clear hf3 hc3 hk3
   obtain⟨b0,b1,b2⟩:=HBB.out w4 HS2.out.chg
   clear HSX
   go_wp2_with fail
   obtain⟨wi,rfl⟩:∃ wi:World,wi=wr:=⟨_,rfl⟩
   clear b0 b1 b2 HCW
   go_loopw [75] (fun q wr=>∃ (k:Nat) (v:Value),k≤O.length∧q=.int .i64 k∧PutSt w2 w2.heap.size wr v ((W :: (R.length:Int) :: R.flatMap rowPut)++[(O.length:Int)]++O.take k)) (fun q _=>O.length-(intOf q).toNat)
   case atStart=>exact⟨0,v4,by omega,rfl,by simpa using HS2.out⟩
   case round =>
    clear HS2
    obtain⟨k,v,hk,rfl,hs⟩:=hrel
    have HS:=jh hs
    have HCJ:=jh (HC2.out.trans (hs.chg.fresh))
    obtain⟨b0,b1,b2⟩:=HBB.out wr hs.chg
    clear hs
    by_cases hkl:k<O.length
    ·have b76:decide ((k:Int)<(O.length:Int))=true:=by simp;omega
     obtain⟨i,hi,c1,i0,i1⟩:=(HO.out.chg HCJ.out (fun _ h=>h)).get hkl
     have e1:=HA.out (by omega)
     subst e1
     have HSP:=jh (offSplit (W:=W) (R:=R) hi)
     have HIB:=jh (HT.out i (by rw [HSP.out];simp))
     have HTK:Hid (O.take (k+1)=O.take k++[i]):=jh (by rw [List.take_add_one,hi];rfl)
     clear hi
     go_wp2_with fail
     refine (putFn_any (i) _ _ _ _ HS.out.fld (HIB.out) (Nat.le_trans (HBL.out _ (_) (by exact HSP.out)) (by omega))).mono ?_
     rintro e w5 ⟨v5,rfl,hf3,hc3,hk3⟩
     have HS5:=jh (HS.out.put hf3 hc3)
     clear hf3 hc3 hk3
     clear HS
     go_wp2
     go_roundw
     case rel=>exact⟨k+1,_,by omega,by go_num,by rw [HTK.out,← List.append_assoc];exact HS5.out⟩
     case measure=>simp [intOf];omega
    ·obtain rfl:k=O.length:=by omega
     have HSX:Hid (PutSt w2 w2.heap.size wr v (tabNums (W,R,O))):=jh (by have:=HS.out;rw [List.take_length] at this;simpa [tabNums] using this)
     have HYL:=jh (HBL.out (tabNums (W,R,O)) [] (by simp))
     have HYP:=jh (bytesOf_pos (X:=tabNums (W,R,O)) (by simp [tabNums]))
     obtain⟨Y,hY⟩:∃ Y,bytesOf (tabNums (W,R,O))=Y:=⟨_,rfl⟩
     have HYE:Hid (putTab (W,R,O)=Y):=jh hY
     have HCV:=jh HSX.out.fld.c
     have HOW:=jh HSX.out.fld.own
     have HCH:=jh HSX.out.chg
     rw [hY] at HYL HYP HOW
     obtain⟨hh,C,hv,hBh,hRow,hpre,hmax⟩:=HOW.out.some (by intro e;have:=HYP.out;rw [e] at this;simp at this)
     subst hv
     have c6:=HCV.out
     have HYB:=jh (hRow.bytes hpre)
     have HCA:=jh ((Chg.refl (fun _=>False) wr).alloc (.cells #[.slice ab Z.length cb,.slice (some ⟨hh,0,none⟩) Y.length C.length] 45))
     clear hRow hpre hBh HS HSX HCV HOW hY
     go_wp2_with fail
     refine (concat_gen Z Y ab gb ob cb hh C.length wr.heap.size _ (HBZ.out.chg (HCJ.out.trans HCA.out) (fun _ h=>h)) HAB.out (HYB.out.chg HCA.out (fun _ h=>h)) HYP.out (by omega) HYL.out (by simp) (by simp)).mono ?_
     rintro e w7 ⟨v7,rfl,hown7,hc7⟩
     obtain⟨h7,C7,rfl,hB7,hRow7,hpre7,hmax7⟩:=hown7.some (by intro e;have h1:=HYP.out;have h2:=congrArg List.length e;rw [List.length_append,List.length_nil] at h2;omega)
     have HFIN:Hid (Row w7 h7 (Z++Y)∧w.heap.size≤h7∧Chg (fun _=>False) w w7):=jh ⟨⟨fun k a hk=>by have:=(hRow7.bytes hpre7).c k a hk;rw [Nat.zero_add] at this;exact this.1,hRow7.z,hRow7.lt,fun a ha=>hRow7.byte a (hpre7.subset ha)⟩,Nat.le_trans HCJ.out.size (Nat.le_trans HCA.out.size hB7),(HCJ.out.trans HCA.out).trans hc7⟩
     have hple:=hpre7.length_le
     rw [List.length_append] at hple
     clear hown7 hc7 hRow7 hpre7 hB7
     go_wp2_with fail
     refine (clip_any w7 h7 _ _ hple).mono ?_
     rintro e w8 ⟨rfl,rfl⟩
     go_wp2
     go_ret2
     exact⟨h7,by rw [HYE.out];simp only [List.length_append];rfl,HFIN.out.2.1,by rw [HYE.out];exact HFIN.out.1,HFIN.out.2.2⟩
end Go.Proofs.YtgnpmceimpjheaaGreat
namespace Go.Proofs.YtgnpmceimpjheaaGreat
open Go.RowKit
theorem takeL_some:∀ {Z:List Int} {i acc n s:Nat},takeL i acc Z=some (n,s)→i<s∧s≤i+Z.length∧n<4294967296
 | [],i,acc,n,s,h=>by simp [takeL] at h
 | c :: l,i,acc,n,s,h=>by
  unfold takeL at h
  split at h
  ·cases h
  split at h
  ·have:=takeL_some h
   simp only [List.length_cons]
   omega
  split at h
  ·cases h
  ·rename_i h1
   injection h with h
   injection h with h2 h3
   simp only [List.length_cons]
   omega
abbrev Rd:=Nat × Bool
def numP (Z:List Int) (m:Nat) (s:Rd):Nat × Rd:=match takeL 0 0 (Z.drop s.1) with
 | some (n,k)=>if n≤m then (n,s.1+k,s.2) else (0,s.1,true)
 | none=>(0,s.1,true)
theorem numP_spec (Z:List Int) (m:Nat) (s:Rd):(∃ n k,takeL 0 0 (Z.drop s.1)=some (n,k)∧n≤m∧n<4294967296∧0<k∧(s.1≤Z.length→s.1+k≤Z.length)∧numP Z m s=(n,s.1+k,s.2))∨numP Z m s=(0,s.1,true):=by
 unfold numP
 cases h:takeL 0 0 (Z.drop s.1) with
 | none=>exact .inr rfl
 | some p =>
  obtain⟨n,k⟩:=p
  simp only
  by_cases hn:n≤m
  ·rw [if_pos hn]
   have:=takeL_some h
   rw [List.length_drop] at this
   exact .inl ⟨n,k,rfl,hn,by omega,by omega,fun hs=>by omega,rfl⟩
  ·rw [if_neg hn]
   exact .inr rfl
theorem numP_le {Z:List Int} {m:Nat} {s:Rd} (h:s.1≤Z.length):(numP Z m s).2.1≤Z.length∧(numP Z m s).1≤m∧(numP Z m s).1<4294967296∧s.1≤(numP Z m s).2.1∧(s.2=true→(numP Z m s).2.2=true)∧((numP Z m s).2.2=true∨s.1<(numP Z m s).2.1):=by
 rcases numP_spec Z m s with ⟨n,k,_,h1,h2,h3,h4,e⟩|e
 ·rw [e]
  have:=h4 h
  exact⟨this,h1,h2,by show s.1≤s.1+k;omega,fun h=>h,.inr (by show s.1<s.1+k;omega)⟩
 ·rw [e]
  exact⟨h,Nat.zero_le _,by omega,Nat.le_refl _,fun _=>rfl,.inl rfl⟩
def cellsP (Z:List Int) (ms mv:Nat):Nat→Rd→Int→List (Int × Int)→List (Int × Int) × Rd
 | 0,s,_,acc=>(acc,s)
 | k+1,s,x,acc=>if s.2 then (acc,s) else
  cellsP Z ms mv k (numP Z mv (numP Z ms s).2).2 (x+(numP Z ms s).1) (acc++[(x+(numP Z ms s).1,((numP Z mv (numP Z ms s).2).1:Int)-1)])
theorem cellsP_wrong {Z:List Int} {ms mv k:Nat} {s:Rd} {x:Int} {acc:List (Int × Int)} (h:s.2=true∨k=0):cellsP Z ms mv k s x acc=(acc,s):=by
 cases k with
 | zero=>rfl
 | succ k=>unfold cellsP;rw [if_pos (by rcases h with h|h;exact h;cases h)]
theorem cellsP_step {Z:List Int} {ms mv k:Nat} {s:Rd} {x:Int} {acc:List (Int × Int)} (h:s.2=false):cellsP Z ms mv (k+1) s x acc=cellsP Z ms mv k (numP Z mv (numP Z ms s).2).2 (x+(numP Z ms s).1) (acc++[(x+(numP Z ms s).1,((numP Z mv (numP Z ms s).2).1:Int)-1)]):=by
 conv=>lhs;unfold cellsP
 rw [if_neg (by rw [h];decide)]
def rowP (Z:List Int) (mw mv:Nat) (s:Rd):RowD × Rd :=
 ((((numP Z mv s).1:Int)-1,(cellsP Z mw mv (numP Z mw (numP Z mv s).2).1 (numP Z mw (numP Z mv s).2).2 0 []).1),(cellsP Z mw mv (numP Z mw (numP Z mv s).2).1 (numP Z mw (numP Z mv s).2).2 0 []).2)
def rowsP (Z:List Int) (mw mv:Nat):Nat→Rd→List RowD→List RowD × Rd
 | 0,s,acc=>(acc,s)
 | k+1,s,acc=>if s.2 then (acc,s) else rowsP Z mw mv k (rowP Z mw mv s).2 (acc++[(rowP Z mw mv s).1])
theorem rowsP_wrong {Z:List Int} {mw mv k:Nat} {s:Rd} {acc:List RowD} (h:s.2=true∨k=0):rowsP Z mw mv k s acc=(acc,s):=by
 cases k with
 | zero=>rfl
 | succ k=>unfold rowsP;rw [if_pos (by rcases h with h|h;exact h;cases h)]
theorem rowsP_step {Z:List Int} {mw mv k:Nat} {s:Rd} {acc:List RowD} (h:s.2=false):rowsP Z mw mv (k+1) s acc=rowsP Z mw mv k (rowP Z mw mv s).2 (acc++[(rowP Z mw mv s).1]):=by
 conv=>lhs;unfold rowsP
 rw [if_neg (by rw [h];decide)]
def ofP (Z:List Int) (mm:Nat):Nat→Rd→List Int→List Int × Rd
 | 0,s,acc=>(acc,s)
 | k+1,s,acc=>if s.2 then (acc,s) else ofP Z mm k (numP Z mm s).2 (acc++[((numP Z mm s).1:Int)])
theorem ofP_wrong {Z:List Int} {mm k:Nat} {s:Rd} {acc:List Int} (h:s.2=true∨k=0):ofP Z mm k s acc=(acc,s):=by
 cases k with
 | zero=>rfl
 | succ k=>unfold ofP;rw [if_pos (by rcases h with h|h;exact h;cases h)]
theorem ofP_step {Z:List Int} {mm k:Nat} {s:Rd} {acc:List Int} (h:s.2=false):ofP Z mm (k+1) s acc=ofP Z mm k (numP Z mm s).2 (acc++[((numP Z mm s).1:Int)]):=by
 conv=>lhs;unfold ofP
 rw [if_neg (by rw [h];decide)]
structure Most where
 mm:Nat
 mv:Nat
 mw:Nat→Nat
def mostP:Most:=⟨65536,16777216,id⟩
def takeP (Z:List Int) (B:Most):TabD × Rd :=
 let p:=numP Z B.mm (0,false)
 let q:=numP Z B.mm p.2
 let r:=rowsP Z (B.mw p.1) B.mv q.1 q.2 []
 let u:=numP Z B.mm r.2
 let v:=ofP Z B.mm u.1 u.2 []
 (((p.1:Int),r.1,v.1),v.2)
-- a wrong one stays wrong
theorem numP_mono {Z:List Int} {m:Nat} {s:Rd} (h:(numP Z m s).2.2=false):s.2=false:=by
 rcases numP_spec Z m s with ⟨n,k,_,h1,h2,h3,h4,e⟩|e
 ·rw [e] at h;exact h
 ·rw [e] at h;cases h
theorem cellsP_mono {Z:List Int} {ms mv:Nat}:∀ {k:Nat} {s:Rd} {x:Int} {acc:List (Int × Int)},(cellsP Z ms mv k s x acc).2.2=false→s.2=false
 | 0,s,x,acc,h=>h
 | k+1,s,x,acc,h=>by
  cases hs:s.2 with
  | false=>rfl
  | true=>rw [cellsP_wrong (.inl hs)] at h;rw [← hs];exact h
theorem rowsP_mono {Z:List Int} {mw mv:Nat}:∀ {k:Nat} {s:Rd} {acc:List RowD},(rowsP Z mw mv k s acc).2.2=false→s.2=false
 | 0,s,acc,h=>h
 | k+1,s,acc,h=>by
  cases hs:s.2 with
  | false=>rfl
  | true=>rw [rowsP_wrong (.inl hs)] at h;rw [← hs];exact h
theorem ofP_mono {Z:List Int} {mm:Nat}:∀ {k:Nat} {s:Rd} {acc:List Int},(ofP Z mm k s acc).2.2=false→s.2=false
 | 0,s,acc,h=>h
 | k+1,s,acc,h=>by
  cases hs:s.2 with
  | false=>rfl
  | true=>rw [ofP_wrong (.inl hs)] at h;rw [← hs];exact h
-- what is right by a number is so by a greater one
end Go.Proofs.YtgnpmceimpjheaaGreat
namespace Go.Proofs.YtgnpmceimpjheaaGreat
open Go.RowKit
def takeOk (Z:List Int) (B:Most):Bool:=!(takeP Z B).2.2 && mayL (takeP Z B).1
end Go.Proofs.YtgnpmceimpjheaaGreat
namespace Go.Proofs.YtgnpmceimpjheaaGreat
open Go.RowKit
def atTab:TabD→Int→Int→Int
 | (W,R,O),l,i=>if l<0∨(O.length:Int)≤l∨i<0∨W≤i then -1 else match O[l.toNat]? with
  | none=>-1
  | some k=>if k<0∨(R.length:Int)≤k then -1 else match R[k.toNat]? with
   | none=>-1
   | some r=>atRow r i
theorem atTab_no {W l i:Int} {R:List RowD} {O:List Int} (h:l<0∨(O.length:Int)≤l∨i<0∨W≤i):atTab (W,R,O) l i=-1:=by simp only [atTab,if_pos h]
theorem atTab_row {W i:Int} {l:Nat} {R:List RowD} {O:List Int} {k:Int} (h:¬ ((l:Int)<0∨(O.length:Int)≤l∨i<0∨W≤i)) (hk:O[l]?=some k):atTab (W,R,O) l i=if k<0∨(R.length:Int)≤k then -1 else match R[k.toNat]? with
  | none=>-1
  | some r=>atRow r i:=by simp only [atTab,if_neg h,Int.toNat_natCast,hk]
theorem atTab_any (W l i:Int) (R:List RowD) (O:List Int) (ra oa:Option Addr) (rc oc B g o:Nat) (w:World) (hW:I.Byte W) (hll:I.Byte l) (hii:I.Byte i) (hR:RowsIn cellE rowE w B (ra,R.length,rc) R) (hcl:∀ r∈R,r.2.length≤1000000000)
  (hO:I.BytesAt w g o O) (ha:0<O.length→oa=some ⟨g,o,none⟩) (hol:O.length≤100000000) :
  Calls Tryz.prog 168 #[.agg #[.int .i64 W,.slice ra R.length rc,.slice oa O.length oc],.int .i64 l,.int .i64 i] w fun e w'=>e=.returned (.int .i64 (atTab (W,R,O) l i))∧Chg (fun _=>False) w w':=by
 have HR:=jh hR
 have HO:=jh hO
 have HA:=jh ha
 have HCL:=jh hcl
 have HC0:=jh ((Chg.refl (fun _=>False) w).alloc (.cells #[.int .i64 W,.slice ra R.length rc,.slice oa O.length oc] 201))
 obtain⟨_,_⟩:=hW
 obtain⟨_,_⟩:=hll
 obtain⟨_,_⟩:=hii
 clear hR hO ha hcl
 by_cases h1:l<0
 ·have d1:decide (l<0)=true:=by simpa using h1
  have HF:=jh (atTab_no (W:=W) (R:=R) (O:=O) (i:=i) (.inl h1))
  go_enter Tryz.func168,Tryz.ntmps168
  go_wp2
  go_ret
  exact⟨by rw [HF.out];rfl,HC0.out⟩
 ·have d1:decide (l<0)=false:=by simpa using h1
  obtain⟨k,rfl⟩:=Int.eq_ofNat_of_zero_le (show 0≤l by omega)
  by_cases h2:O.length≤k
  ·have d2:decide ((O.length:Int)≤(k:Int))=true:=by simp;omega
   have HF:=jh (atTab_no (W:=W) (R:=R) (O:=O) (i:=i) (l:=(k:Int)) (.inr (.inl (by omega))))
   go_enter Tryz.func168,Tryz.ntmps168
   go_wp2
   go_ret
   exact⟨by rw [HF.out];rfl,HC0.out⟩
  ·have d2:decide ((O.length:Int)≤(k:Int))=false:=by simp;omega
   by_cases h3:i<0
   ·have d3:decide (i<0)=true:=by simpa using h3
    have HF:=jh (atTab_no (W:=W) (R:=R) (O:=O) (i:=i) (l:=(k:Int)) (.inr (.inr (.inl h3))))
    go_enter Tryz.func168,Tryz.ntmps168
    go_wp2
    go_ret
    exact⟨by rw [HF.out];rfl,HC0.out⟩
   ·have d3:decide (i<0)=false:=by simpa using h3
    by_cases h4:W≤i
    ·have d4:decide (W≤i)=true:=by simpa using h4
     have HF:=jh (atTab_no (W:=W) (R:=R) (O:=O) (i:=i) (l:=(k:Int)) (.inr (.inr (.inr h4))))
     go_enter Tryz.func168,Tryz.ntmps168
     go_wp2
     go_ret
     exact⟨by rw [HF.out];rfl,HC0.out⟩
    ·have d4:decide (W≤i)=false:=by simpa using h4
     obtain⟨q,hq,c1,q0,q1⟩:=(HO.out.chg HC0.out (fun _ h=>h)).get (k:=k) (by omega)
     have e1:=HA.out (by omega)
     subst e1
     have HT:=jh (atTab_row (W:=W) (R:=R) (i:=i) (l:=k) (by omega) hq)
     have hk:k<O.length:=by omega
     clear hq
     by_cases h5:q<0
     ·have d5:decide (q<0)=true:=by simpa using h5
      rw [if_pos (.inl h5)] at HT
      go_enter Tryz.func168,Tryz.ntmps168
      go_wp2
      go_ret
      exact⟨by rw [HT.out];rfl,HC0.out⟩
     ·have d5:decide (q<0)=false:=by simpa using h5
      obtain⟨n,rfl⟩:=Int.eq_ofNat_of_zero_le (show 0≤q by omega)
      by_cases h6:R.length≤n
      ·have d6:decide ((R.length:Int)≤(n:Int))=true:=by simp;omega
       rw [if_pos (.inr (by omega))] at HT
       go_enter Tryz.func168,Tryz.ntmps168
       go_wp2
       go_ret
       exact⟨by rw [HT.out];rfl,HC0.out⟩
      ·have d6:decide ((R.length:Int)≤(n:Int))=false:=by simp;omega
       obtain⟨r,g',o',xa,xc,hr,rfl,c0,c2,hrb,hin,-,-⟩:=(HR.out.same HC0.out).get rfl (fun _=>rfl) (show n<R.length by omega)
       obtain⟨rd,rl⟩:=r
       simp only at c0 c2 hin hrb
       rw [if_neg (by omega),Int.toNat_natCast,hr] at HT
       have HIN:=jh hin
       have HRL:=jh (HCL.out _ (List.mem_of_getElem? hr))
       have hn:n<R.length:=by omega
       clear hr hin hrb
       go_enter Tryz.func168,Tryz.ntmps168
       go_wp2_with fail
       refine (at_any rd rl xa xc B i _ HIN.out HRL.out).mono ?_
       rintro e w2 ⟨rfl,hc2⟩
       have HC2:=jh (HC0.out.trans hc2)
       clear hc2
       go_wp2
       go_ret
       exact⟨by rw [HT.out];rfl,HC2.out⟩
end Go.Proofs.YtgnpmceimpjheaaGreat
namespace Go.Proofs.YtgnpmceimpjheaaGreat
open Go.RowKit
abbrev Rdr (α:Type):=List Int→Option (α × List Int)
def numG (m:Nat):Rdr Int:=fun b=>match takeL 0 0 b with
 | none=>none
 | some (n,k)=>if n≤m then some ((n:Int),b.drop k) else none
def anyG:Rdr Int:=numG 16777215
def textG:Rdr Str:=fun b=>match numG 64 b with
 | none=>none
 | some (n,r)=>if n≤r.length then some (strOfNums (r.take n.toNat),r.drop n.toNat) else none
def repG {α:Type} (one:Rdr α):Nat→List α→Rdr (List α)
 | 0,acc,b=>some (acc,b)
 | k+1,acc,b=>match one b with
  | none=>none
  | some (x,r)=>repG one k (acc++[x]) r
def listG {α:Type} (one:Rdr α):Rdr (List α):=fun b=>match anyG b with
 | none=>none
 | some (n,r)=>repG one n.toNat [] r
def edgeG:Rdr EdgeD:=fun b=>match numG 3 b with
 | none=>none
 | some (k,b1)=>match anyG b1 with
  | none=>none
  | some (x,b2)=>match anyG b2 with
   | none=>none
   | some (t,b3)=>some ((k,x,t),b3)
def stateG:Rdr StD:=fun b=>match anyG b with
 | none=>none
 | some (r,b1)=>match listG edgeG b1 with
  | none=>none
  | some (es,b2)=>match listG anyG b2 with
   | none=>none
   | some (ds,b3)=>some ((r,es,ds),b3)
def listsT (t:TabD):List (List Int):=(List.range t.2.2.length).map (fun (i:Nat)=>(List.range t.1.toNat).map (fun (k:Nat)=>atTab t i k))
def tableG:Rdr (List (List Int) × Int):=fun b =>
 if takeOk b mostP then if ((takeP b mostP).1.2.2.length:Int) * (takeP b mostP).1.1≤4194304 then some ((listsT (takeP b mostP).1,(takeP b mostP).1.1),b.drop (takeP b mostP).2.1) else none else none
def rcG:Rdr ((Int × Int) × Int):=fun b=>match anyG b with
 | none=>none
 | some (l,b1)=>match anyG b1 with
  | none=>none
  | some (h,b2)=>match anyG b2 with
   | none=>none
   | some (c,b3)=>some (((l,h),c),b3)
def endG:Rdr Int:=fun b=>match anyG b with
 | none=>none
 | some (n,r)=>some (n-1,r)
def lexG:Rdr LexD:=fun b=>match listG rcG b with
 | none=>none
 | some (rc,b1)=>match tableG b1 with
  | none=>none
  | some ((ns,w),b2)=>if w=colsL (rc.map (·.2)) then match repG endG ns.length [] b2 with
   | none=>none
   | some (es,b3)=>some (⟨rc.map (·.1),rc.map (·.2),ns,es⟩,b3)
   else none
def decsFrom:Nat→List StD→List Int
 | _,[]=>[]
 | k,s :: l=>if 0<s.2.2.length then (k:Int) :: decsFrom (k+1) l else decsFrom (k+1) l
def decsOf (l:List StD):List Int:=decsFrom 0 l
def netG:Rdr NetD:=fun b=>match listG stateG b with
 | none=>none
 | some (st,b1)=>match listG anyG b1 with
  | none=>none
  | some (s,b2)=>match listG anyG b2 with
   | none=>none
   | some (p,b3)=>match listG anyG b3 with
    | none=>none
    | some (q,b4)=>some (⟨st,s,p,q,decsOf st⟩,b4)
def lsG:Rdr (Int × List Int):=fun b=>match numG 3 b with
 | none=>none
 | some (k,b1)=>match listG anyG b1 with
  | none=>none
  | some (l,b2)=>some ((k,l),b2)
def edgesFrom:Int→List Int→List (Int × Int)
 | _,[]=>[]
 | k,x :: l=>if 0≤x then (k,x) :: edgesFrom (k+1) l else edgesFrom (k+1) l
def edgesOf (l:List Int):List (Int × Int):=edgesFrom (-1) l
def lookG (tokens:Nat):Rdr (List LsD):=fun b=>match listG lsG b with
 | none=>none
 | some (ss,b1)=>match tableG b1 with
  | none=>none
  | some ((ls,w),b2)=>if w=tokens+1∧ls.length=ss.length then some (List.zipWith (fun s l=>(s.1,s.2,edgesOf l)) ss ls,b2) else none
def tokG:Rdr (Str × Bool):=fun b=>match textG b with
 | none=>none
 | some (s,b1)=>match numG 1 b1 with
  | none=>none
  | some (n,b2)=>some ((s,decide (n=1)),b2)
def headL:List Int:=[72,66,84,49]
def bodyG:Rdr TabsD:=fun b=>match listG textG b with
 | none=>none
 | some (rl,b1)=>match listG tokG b1 with
  | none=>none
  | some (tk,b2)=>match lexG b2 with
   | none=>none
   | some (lx,b3)=>match netG b3 with
    | none=>none
    | some (nt,b4)=>match repG (lookG tk.length) nt.d.length [] b4 with
     | none=>none
     | some (lk,b5)=>some (⟨rl,tk.map (·.1),tk.map (·.2),lx,nt,lk⟩,b5)
theorem takeL_bound {Z:List Int} {n k:Nat} (h:takeL 0 0 Z=some (n,k)):0<k∧k≤Z.length∧n<4294967296:=by
 have:=takeL_some h;omega
theorem numG_some {m:Nat} {b r:List Int} {x:Int} (h:numG m b=some (x,r)):∃ n k:Nat,takeL 0 0 b=some (n,k)∧x=n∧n≤m∧n<4294967296∧r=b.drop k∧0<k∧k≤b.length:=by
 unfold numG at h
 cases ht:takeL 0 0 b with
 | none=>rw [ht] at h;cases h
 | some p =>
  obtain⟨n,k⟩:=p
  rw [ht] at h
  simp only at h
  have:=takeL_bound ht
  split at h
  ·rename_i hn
   injection h with h
   injection h with h1 h2
   exact⟨n,k,rfl,h1.symm,hn,this.2.2,h2.symm,this.1,this.2.1⟩
  ·cases h
theorem numG_none {m:Nat} {b:List Int} (h:numG m b=none):takeL 0 0 b=none∨∃ n k:Nat,takeL 0 0 b=some (n,k)∧m<n∧n<4294967296:=by
 unfold numG at h
 cases ht:takeL 0 0 b with
 | none=>exact .inl rfl
 | some p =>
  obtain⟨n,k⟩:=p
  rw [ht] at h
  simp only at h
  split at h
  ·cases h
  ·rename_i hn
   exact .inr ⟨n,k,rfl,by omega,(takeL_bound ht).2.2⟩
end Go.Proofs.YtgnpmceimpjheaaGreat
namespace Go.Proofs.YtgnpmceimpjheaaGreat
open Go.RowKit
structure GetSt (pg gb:Nat) (w:World) (Z:List Int):Prop where
 c:∃ o cc,w.cell? ⟨pg,0,none⟩=some (.slice (some ⟨gb,o,none⟩) Z.length cc)∧Z.length≤cc∧BytesAt w gb o Z
 z:w.frozen? ⟨pg,0,none⟩=false
 lt:pg<w.heap.size
 lb:gb<w.heap.size
 ne:gb≠pg
 len:Z.length≤10000000
 byte:∀ a∈Z,Byte a
theorem GetSt.chg {pg gb:Nat} {T:Nat→Prop} {w w':World} {Z:List Int} (h:GetSt pg gb w Z) (hc:Chg T w w') (hp:¬ T pg) (hb:¬ T gb):GetSt pg gb w' Z:=by
 obtain⟨o,cc,h1,h2,h3⟩:=h.c
 exact⟨⟨o,cc,hc.cellS h1 hp,h2,h3.chg hc (fun _=>hb)⟩,(hc.frozen (p:=⟨pg,0,none⟩) h.lt hp).trans h.z,Nat.lt_of_lt_of_le h.lt hc.size,Nat.lt_of_lt_of_le h.lb hc.size,h.ne,h.len,h.byte⟩
theorem GetSt.fresh {pg gb:Nat} {w w':World} {Z:List Int} (h:GetSt pg gb w Z) (hc:Chg (fun _=>False) w w'):GetSt pg gb w' Z:=h.chg hc (fun h=>h) (fun h=>h)
def cutV (gb o cc n k:Nat):Value:=if cc=k then .slice (some ⟨gb,o,none⟩) 0 0 else .slice (some ⟨gb,o+k,none⟩) (n-k) (cc-k)
theorem GetSt.cut {pg gb:Nat} {w:World} {Z:List Int} (h:GetSt pg gb w Z) {o cc k:Nat} (h1:w.cell? ⟨pg,0,none⟩=some (.slice (some ⟨gb,o,none⟩) Z.length cc)) (h2:Z.length≤cc) (h3:BytesAt w gb o Z) (hk:k≤Z.length) :
  GetSt pg gb (w.setCell ⟨pg,0,none⟩ (cutV gb o cc Z.length k)) (Z.drop k):=by
 have hc:=setCellChg w pg 0 (cutV gb o cc Z.length k)
 refine⟨?_,(World.frozen?_setCell _ _ _ _).trans h.z,Nat.lt_of_lt_of_le h.lt hc.size,Nat.lt_of_lt_of_le h.lb hc.size,h.ne,by rw [List.length_drop];have:=h.len;omega,fun a ha=>h.byte a (List.mem_of_mem_drop ha)⟩
 have e1:(w.setCell ⟨pg,0,none⟩ (cutV gb o cc Z.length k)).cell? ⟨pg,0,none⟩=some (cutV gb o cc Z.length k):=World.cell?_setCell_same _ _ _ h1
 by_cases he:cc=k
 ·have hd:Z.drop k=[]:=List.drop_eq_nil_of_le (by omega)
  rw [hd]
  refine⟨o,0,?_,Nat.le_refl _,⟨fun j a hj=>by simp at hj,fun h=>absurd rfl h⟩⟩
  rw [e1,cutV,if_pos he]
  rfl
 ·refine⟨o+k,cc-k,?_,by rw [List.length_drop];omega,⟨fun j a hj=>?_,fun hne=>Nat.lt_of_lt_of_le h.lb hc.size⟩⟩
  ·rw [e1,cutV,if_neg he,List.length_drop]
  ·rw [List.getElem?_drop] at hj
   have h4:=(h3.chg hc (fun _=>h.ne)).c (k+j) a hj
   rw [Nat.add_assoc]
   exact h4
theorem gnum_none {pg gb m:Nat} {Z:List Int} (w:World) (h:GetSt pg gb w Z) (hn:numG m Z=none) :
  Calls Tryz.prog 106 #[.pointer (some ⟨pg,0,none⟩),.int .i64 m] w fun e w'=>e=strangeP∧Chg (fun _=>False) w w':=by
 obtain⟨o,cc,h1,h2,h3⟩:=h.c
 have HT:=jh (take_any Z (some ⟨gb,o,none⟩) gb o cc w h3 (fun _=>rfl) h2 (by have:=h.len;omega))
 clear h2 h3
 rcases numG_none hn with h4|⟨n,k,h4,h5,h6⟩
 all_goals
  rw [h4] at HT
  clear h4 hn
  go_enter Tryz.func106,Tryz.ntmps106
  go_wp2_with fail
  refine HT.out.mono ?_
  rintro e w2 ⟨rfl,hc⟩
  simp only [takeV]
  have HC:=jh hc
  clear hc h1
 ·go_wp2_with fail
  refine (must_no _).mono ?_
  rintro e w3 ⟨rfl,rfl⟩
  exact⟨rfl,rfl,HC.out⟩
 ·have d1:decide (n≤m)=false:=decide_eq_false (by omega)
  go_wp2_with fail
  refine (must_no _).mono ?_
  rintro e w3 ⟨rfl,rfl⟩
  exact⟨rfl,rfl,HC.out⟩
theorem gnum_some {pg gb m:Nat} {Z r:List Int} {x:Int} (w:World) (h:GetSt pg gb w Z) (hn:numG m Z=some (x,r)) :
  Calls Tryz.prog 106 #[.pointer (some ⟨pg,0,none⟩),.int .i64 m] w fun e w'=>e=.returned (.int .i64 x)∧GetSt pg gb w' r∧Chg (·=pg) w w':=by
 obtain⟨o,cc,h1,h2,h3⟩:=h.c
 have HT:=jh (take_any Z (some ⟨gb,o,none⟩) gb o cc w h3 (fun _=>rfl) h2 (by have:=h.len;omega))
 obtain⟨n,k,h4,rfl,h5,h6,rfl,h7,h8⟩:=numG_some hn
 rw [h4] at HT
 have HS:=jh h
 have HK:=jh h8
 have hk2:k≤10000000:=by have:=h.len;omega
 have HE:Hid (∀ w2,Chg (fun _=>False) w w2→w2.cell? ⟨pg,0,none⟩=some (.slice (some ⟨gb,o,none⟩) Z.length cc)∧w2.frozen? ⟨pg,0,none⟩=false∧GetSt pg gb (w2.setCell ⟨pg,0,none⟩ (cutV gb o cc Z.length k)) (Z.drop k)) :=
  jh fun w2 hc=>⟨hc.cellS h1 (fun h=>h),(hc.frozen (p:=⟨pg,0,none⟩) h.lt (fun h=>h)).trans h.z,(h.fresh hc).cut (hc.cellS h1 (fun h=>h)) h2 (h3.chg hc (fun _ h=>h)) h8⟩
 have HL:Hid (Z.length≤cc):=jh h2
 have hd1:decide ((n:Int)≤(m:Int))=true:=by simp;omega
 clear h h2 h3 h4 hn
 go_enter Tryz.func106,Tryz.ntmps106
 go_wp2_with fail
 refine HT.out.mono ?_
 rintro e w2 ⟨rfl,hc⟩
 simp only [takeV]
 obtain⟨c2,z2,g2⟩:=HE.out w2 hc
 have HC:=jh hc
 have HG:=jh g2
 clear hc h1 g2
 go_wp2_with fail
 refine (must_ok _).mono ?_
 rintro e w3 ⟨rfl,rfl⟩
 by_cases hck:cc=k
 ·have hzk:Z.length-k=0:=by have:=HL.out;omega
  rw [cutV,if_pos hck] at HG
  go_wp2
  go_ret
  exact⟨rfl,HG.out,HC.out.any.trans (setCellChg _ _ _ _)⟩
 ·rw [cutV,if_neg hck] at HG
  go_wp2
  go_ret
  exact⟨rfl,HG.out,HC.out.any.trans (setCellChg _ _ _ _)⟩
theorem any_none {pg gb:Nat} {Z:List Int} (w:World) (h:GetSt pg gb w Z) (hn:anyG Z=none) :
  Calls Tryz.prog 139 #[.pointer (some ⟨pg,0,none⟩)] w fun e w'=>e=strangeP∧Chg (fun _=>False) w w':=by
 have HN:=jh (gnum_none w h hn)
 clear h hn
 go_enter Tryz.func139,Tryz.ntmps139
 go_wp2_with fail
 refine HN.out.mono ?_
 rintro e w2 ⟨rfl,hc⟩
 exact⟨rfl,rfl,hc⟩
theorem any_some {pg gb:Nat} {Z r:List Int} {x:Int} (w:World) (h:GetSt pg gb w Z) (hn:anyG Z=some (x,r)) :
  Calls Tryz.prog 139 #[.pointer (some ⟨pg,0,none⟩)] w fun e w'=>e=.returned (.int .i64 x)∧GetSt pg gb w' r∧Chg (·=pg) w w':=by
 have HN:=jh (gnum_some w h hn)
 clear h hn
 go_enter Tryz.func139,Tryz.ntmps139
 go_wp2_with fail
 refine HN.out.mono ?_
 rintro e w2 ⟨rfl,hg,hc⟩
 have HG:=jh hg
 have HC:=jh hc
 clear hg hc
 go_wp2
 go_ret
 exact⟨rfl,HG.out,HC.out⟩
theorem textG_cases (Z:List Int):(numG 64 Z=none∧textG Z=none)∨∃ (n:Nat) (r:List Int),n≤64∧numG 64 Z=some ((n:Int),r)∧((r.length<n∧textG Z=none)∨(n≤r.length∧textG Z=some (strOfNums (r.take n),r.drop n))):=by
 unfold textG
 cases h:numG 64 Z with
 | none=>exact .inl ⟨rfl,rfl⟩
 | some p =>
  obtain⟨x,r⟩:=p
  obtain⟨n,k,_,rfl,hn,_⟩:=numG_some h
  refine .inr ⟨n,r,hn,rfl,?_⟩
  simp only [Int.toNat_natCast]
  by_cases hl:n≤r.length
  ·exact .inr ⟨hl,by rw [if_pos (by omega)]⟩
  ·exact .inl ⟨by omega,by rw [if_neg (by omega)]⟩
theorem text_none {pg gb:Nat} {Z:List Int} (w:World) (h:GetSt pg gb w Z) (hn:textG Z=none) :
  Calls Tryz.prog 104 #[.pointer (some ⟨pg,0,none⟩)] w fun e w'=>e=strangeP∧Chg (·=pg) w w':=by
 rcases textG_cases Z with ⟨h1,-⟩|⟨n,r,h1,h2,⟨h3,-⟩|⟨h3,h4⟩⟩
 ·have HN:=jh (gnum_none w h h1)
  clear h hn h1
  go_enter Tryz.func104,Tryz.ntmps104
  go_wp2_with fail
  refine HN.out.mono ?_
  rintro e w2 ⟨rfl,hc⟩
  exact⟨rfl,rfl,hc.any⟩
 ·have HN:=jh (gnum_some w h h2)
  have d1:decide (n≤r.length)=false:=decide_eq_false (by omega)
  clear h hn h2
  go_enter Tryz.func104,Tryz.ntmps104
  go_wp2_with fail
  refine HN.out.mono ?_
  rintro e w2 ⟨rfl,hg,hc⟩
  obtain⟨o,cc,c1,c2,-⟩:=hg.c
  have HC:=jh hc
  clear hg hc c2
  go_wp2_with fail
  refine (must_no _).mono ?_
  rintro e w3 ⟨rfl,rfl⟩
  exact⟨rfl,rfl,HC.out⟩
 ·rw [hn] at h4;cases h4
theorem text_some {pg gb:Nat} {Z r':List Int} {x:Str} (w:World) (h:GetSt pg gb w Z) (hn:textG Z=some (x,r')) :
  Calls Tryz.prog 104 #[.pointer (some ⟨pg,0,none⟩)] w fun e w'=>e=.returned (.string x)∧GetSt pg gb w' r'∧Chg (·=pg) w w':=by
 rcases textG_cases Z with ⟨h1,h2⟩|⟨n,r,h1,h2,⟨h3,h4⟩|⟨h3,h4⟩⟩
 ·rw [hn] at h2;cases h2
 ·rw [hn] at h4;cases h4
 ·rw [hn] at h4
  injection h4 with h4
  injection h4 with h5 h6
  subst h5 h6
  have HN:=jh (gnum_some w h h2)
  have d1:decide (n≤r.length)=true:=decide_eq_true h3
  clear h hn h2
  go_enter Tryz.func104,Tryz.ntmps104
  go_wp2_with fail
  refine HN.out.mono ?_
  rintro e w2 ⟨rfl,hg,hc⟩
  obtain⟨o,cc,c1,c2,c3⟩:=hg.c
  have HC:=jh hc
  have HG:=jh (hg.cut c1 c2 c3 h3)
  have z1:=hg.z
  have hl:=hg.len
  have HB:Hid (BytesAt w2 gb o (r.take n)):=jh ⟨fun j x hj=>c3.c j x (by rw [List.getElem?_take_of_lt (by have:=(List.getElem?_eq_some_iff.1 hj).1;rw [List.length_take] at this;omega)] at hj;exact hj),fun _=>hg.lb⟩
  have hcv:=conv8 cc HB.out (a:=some ⟨gb,o,none⟩) (fun _=>rfl)
  rw [List.length_take,Nat.min_eq_left h3] at hcv
  have hn2:n≤cc:=by omega
  have HRL:=jh h3
  clear hg hc c3 HN HB
  go_wp2_with fail
  refine (must_ok _).mono ?_
  rintro e w3 ⟨rfl,rfl⟩
  by_cases hck:cc=n
  ·have hzk:r.length-n=0:=by omega
   rw [cutV,if_pos hck] at HG
   clear h3
   subst hck
   go_wp2
   go_ret
   exact⟨rfl,HG.out,HC.out.trans (setCellChg _ _ _ _)⟩
  ·rw [cutV,if_neg hck] at HG
   clear h3
   go_wp2
   go_ret
   exact⟨rfl,HG.out,HC.out.trans (setCellChg _ _ _ _)⟩
end Go.Proofs.YtgnpmceimpjheaaGreat
