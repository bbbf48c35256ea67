/- A part of the proof: CodF CodV CodW CodA CodI ConcatI EqI CodJ. -/
import Derived.Test.YtgnpmceimpjheaaGreatGT9
import Derived.Test.YtgnpmceimpjheaaGreatGT1
import Derived.Test.YtgnpmceimpjheaaGreatGT3
import Derived.Laws.EntriesVeiled
import Derived.Handy
set_option maxRecDepth 100000
set_option maxHeartbeats 16000000
namespace Go.Proofs.YtgnpmceimpjheaaGreat
open Go.RowKit
def GivesE {β δ:Type} (E:Elt β) (val:β→Value) (R:Rp β δ) (S:Nat→Prop) (f:FuncId) (lb:Array Value) (p:δ→Bool) (w:World):Prop:=∀ (y:β) (d:δ) (w':World),R w' S y d→E.ok y→Chg (fun _=>False) w w' →
 Calls Tryz.prog f (#[val y]++lb) w' fun e w''=>e=.returned (.bool (p d))∧Chg (fun _=>False) w' w''
theorem ListR.get2 {β δ:Type} {E:Elt β} {R:Rp β δ} {w:World} {S:Nat→Prop} {a:Option Addr} {n c:Nat} {L:List δ} (h:ListR E R w S (a,n,c) L) (hz:E.sz=2) {k:Nat} (hk:k<L.length) {f:β→List Value} (hf:E.enc=f) :
  ∃ (x:β) (d:δ) (g o:Nat),L[k]?=some d∧R w S x d∧a=some ⟨g,o,none⟩∧S g∧g<w.heap.size∧E.ok x∧∀ u0 u1,f x=[u0,u1]→w.cell? ⟨g,o+k * 2,none⟩=some u0∧w.cell? ⟨g,o+k * 2+1,none⟩=some u1:=by
 obtain⟨x,d,g,o,h1,h2,h3,h4,h5,h6,h7⟩:=h.get hk
 refine⟨x,d,g,o,h1,h2,h3,h4,h5,h6,fun u0 u1 he=>?_⟩
 rw [← hf] at he
 have c0:=h7 0 u0 (by rw [he];rfl)
 have c1:=h7 1 u1 (by rw [he];rfl)
 rw [hz] at c0 c1
 exact⟨by simpa using c0,by rw [Nat.add_assoc];exact c1⟩
theorem ListR.get1' {β δ:Type} {E:Elt β} {R:Rp β δ} {w:World} {S:Nat→Prop} {a:Option Addr} {n c:Nat} {L:List δ} (h:ListR E R w S (a,n,c) L) (hz:E.sz=1) {k:Nat} (hk:k<L.length) {f:β→List Value} (hf:E.enc=f) :
  ∃ (x:β) (d:δ) (g o:Nat),L[k]?=some d∧R w S x d∧a=some ⟨g,o,none⟩∧S g∧g<w.heap.size∧E.ok x∧∀ u0,f x=[u0]→w.cell? ⟨g,o+k,none⟩=some u0:=by
 obtain⟨x,d,g,o,h1,h2,h3,h4,h5,h6,h7⟩:=h.get hk
 refine⟨x,d,g,o,h1,h2,h3,h4,h5,h6,fun u0 he=>?_⟩
 rw [← hf] at he
 have c0:=h7 0 u0 (by rw [he];rfl)
 rw [hz,Nat.mul_one,Nat.add_zero] at c0
 exact c0
def encStr (s:Str):List Value:=[.string s]
def rngVal (p:Int × Int):Value:=.agg #[.int .i32 p.1,.int .i32 p.2]
theorem idxStr {δ:Type} {R:Rp Str δ} (hR:Good R) {S:Nat→Prop} (f:FuncId) (lb:Array Value) (p:δ→Bool) (L:List δ) (a:Option Addr) (c:Nat) (w:World) (eg:∀ args w,(callFunc f args).run Tryz.prog w=.ok (.enter f args) w) (h:ListR strE R w S (a,L.length,c) L) (hp:GivesE strE strVal R S f lb p w) (hl:L.length≤1000000000) :
  Calls Tryz.prog 82 #[.slice a L.length c,.func (.func f) #[] lb] w fun e w'=>e=.returned (.int .i64 (idxV p L))∧Chg (fun _=>False) w w':=by
 have HL:=jh h
 have HP:=jh hp
 have HR:=jh hR
 clear h hp hR
 go_enter Tryz.func82,Tryz.ntmps82
 go_wp2
 go_loopw [8] (fun q wr=>∃ k:Nat,k≤L.length∧q=.int .i64 k∧(∀ (j:Nat) y,j<k→L[j]?=some y→p y=false)∧Chg (fun _=>False) w wr) (fun q _=>L.length-(intOf q).toNat)
 case atStart=>exact⟨0,by omega,rfl,fun j y h=>absurd h (Nat.not_lt_zero _),Chg.refl _ _⟩
 case round =>
  obtain⟨k,hk,rfl,hb,hc⟩:=hrel
  have HB:=jh hb
  have HC:=jh hc
  have HLW:=jh ((ListR.good HR.out).chg HL.out hc (fun _ _ h=>h))
  clear hb hc
  by_cases hkl:k<L.length
  ·have b9:decide ((k:Int)<(L.length:Int))=true:=by simp;omega
   obtain⟨x,d,g,o,hx,hr,rfl,-,-,hok,hcells⟩:=HLW.out.get1' (f:=encStr) rfl hkl rfl
   have HX:=jh hx
   have hcall:=HP.out x d wr hr hok HC.out
   have hcs:=hcells
   clear hx hr hok HLW
   first|(have c0:=hcells _ rfl)|(obtain⟨c0,c1⟩:=hcells _ _ rfl)|(obtain⟨c0,c1,c2⟩:=hcells _ _ _ rfl)
   clear hcells hcs
   try unfold slV at c1
   try unfold slV at c2
   cases hxi:p d with
   | true =>
    rw [hxi] at hcall
    have HF:Hid (idxV p L=k):=jh (idxV_found HX.out hxi HB.out)
    have HCALL:=jh hcall
    clear hcall hxi
    go_wp2_with fail
    refine HCALL.out.mono ?_
    rintro e w2 ⟨rfl,hc2⟩
    have HC2:=jh (HC.out.trans hc2)
    clear hc2 c0
    go_wp2
    go_ret
    exact⟨by rw [HF.out];rfl,HC2.out⟩
   | false =>
    rw [hxi] at hcall
    have HB2:Hid (∀ (j:Nat) y,j<k+1→L[j]?=some y→p y=false):=jh (fun j y hj hy=>by
     by_cases he:j=k
     ·subst he;rw [HX.out] at hy;obtain rfl:=Option.some.inj hy;exact hxi
     ·exact HB.out j y (by omega) hy)
    have HCALL:=jh hcall
    clear hcall hxi
    go_wp2_with fail
    refine HCALL.out.mono ?_
    rintro e w2 ⟨rfl,hc2⟩
    have HC2:=jh (HC.out.trans hc2)
    clear hc2 c0
    go_wp2
    go_roundw
    case rel=>exact⟨k+1,by omega,by go_num,HB2.out,HC2.out⟩
    case measure=>simp [intOf];omega
  ·obtain rfl:k=L.length:=by omega
   have HF:Hid (idxV p L=-1):=jh (idxV_none HB.out)
   go_wp2
   go_ret
   exact⟨by rw [HF.out];rfl,HC.out⟩
theorem containsidxStr {δ:Type} {R:Rp Str δ} (hR:Good R) {S:Nat→Prop} (f:FuncId) (lb:Array Value) (p:δ→Bool) (L:List δ) (a:Option Addr) (c:Nat) (w:World) (eg:∀ args w,(callFunc f args).run Tryz.prog w=.ok (.enter f args) w) (h:ListR strE R w S (a,L.length,c) L) (hp:GivesE strE strVal R S f lb p w) (hl:L.length≤1000000000) :
  Calls Tryz.prog 36 #[.slice a L.length c,.func (.func f) #[] lb] w fun e w'=>e=.returned (.bool (L.any p))∧Chg (fun _=>False) w w':=by
 have HL:=jh h
 have HP:=jh hp
 have HR:=jh hR
 clear h hp hR
 rcases idx_cases p L with ⟨k,x,-,-,h3,-,h5⟩|⟨h3,-,h5⟩
 all_goals
  have HI:=jh h3
  have HN:=jh h5
  clear h3 h5
  go_enter Tryz.func36,Tryz.ntmps36
  go_wp2_with fail
  refine (idxStr HR.out f lb p L a c _ eg HL.out HP.out hl).mono ?_
  rintro e w2 ⟨rfl,hc2⟩
  rw [HI.out]
  have HC:=jh hc2
  clear hc2
  go_wp2
  go_ret
  exact⟨by rw [HN.out];rfl,HC.out⟩
theorem idxRng {δ:Type} {R:Rp (Int × Int) δ} (hR:Good R) {S:Nat→Prop} (f:FuncId) (lb:Array Value) (p:δ→Bool) (L:List δ) (a:Option Addr) (c:Nat) (w:World) (eg:∀ args w,(callFunc f args).run Tryz.prog w=.ok (.enter f args) w) (h:ListR rngE R w S (a,L.length,c) L) (hp:GivesE rngE rngVal R S f lb p w) (hl:L.length≤1000000000) :
  Calls Tryz.prog 130 #[.slice a L.length c,.func (.func f) #[] lb] w fun e w'=>e=.returned (.int .i64 (idxV p L))∧Chg (fun _=>False) w w':=by
 have HL:=jh h
 have HP:=jh hp
 have HR:=jh hR
 clear h hp hR
 go_enter Tryz.func130,Tryz.ntmps130
 go_wp2
 go_loopw [8] (fun q wr=>∃ k:Nat,k≤L.length∧q=.int .i64 k∧(∀ (j:Nat) y,j<k→L[j]?=some y→p y=false)∧Chg (fun _=>False) w wr) (fun q _=>L.length-(intOf q).toNat)
 case atStart=>exact⟨0,by omega,rfl,fun j y h=>absurd h (Nat.not_lt_zero _),Chg.refl _ _⟩
 case round =>
  obtain⟨k,hk,rfl,hb,hc⟩:=hrel
  have HB:=jh hb
  have HC:=jh hc
  have HLW:=jh ((ListR.good HR.out).chg HL.out hc (fun _ _ h=>h))
  clear hb hc
  by_cases hkl:k<L.length
  ·have b9:decide ((k:Int)<(L.length:Int))=true:=by simp;omega
   obtain⟨x,d,g,o,hx,hr,rfl,-,-,hok,hcells⟩:=HLW.out.get2 (f:=encRng) rfl hkl rfl
   have HX:=jh hx
   have hcall:=HP.out x d wr hr hok HC.out
   have hcs:=hcells
   clear hx hr hok HLW
   first|(have c0:=hcells _ rfl)|(obtain⟨c0,c1⟩:=hcells _ _ rfl)|(obtain⟨c0,c1,c2⟩:=hcells _ _ _ rfl)
   clear hcells hcs
   try unfold slV at c1
   try unfold slV at c2
   cases hxi:p d with
   | true =>
    rw [hxi] at hcall
    have HF:Hid (idxV p L=k):=jh (idxV_found HX.out hxi HB.out)
    have HCALL:=jh hcall
    clear hcall hxi
    go_wp2_with fail
    refine HCALL.out.mono ?_
    rintro e w2 ⟨rfl,hc2⟩
    have HC2:=jh (HC.out.trans hc2)
    clear hc2 c0
    go_wp2
    go_ret
    exact⟨by rw [HF.out];rfl,HC2.out⟩
   | false =>
    rw [hxi] at hcall
    have HB2:Hid (∀ (j:Nat) y,j<k+1→L[j]?=some y→p y=false):=jh (fun j y hj hy=>by
     by_cases he:j=k
     ·subst he;rw [HX.out] at hy;obtain rfl:=Option.some.inj hy;exact hxi
     ·exact HB.out j y (by omega) hy)
    have HCALL:=jh hcall
    clear hcall hxi
    go_wp2_with fail
    refine HCALL.out.mono ?_
    rintro e w2 ⟨rfl,hc2⟩
    have HC2:=jh (HC.out.trans hc2)
    clear hc2 c0
    go_wp2
    go_roundw
    case rel=>exact⟨k+1,by omega,by go_num,HB2.out,HC2.out⟩
    case measure=>simp [intOf];omega
  ·obtain rfl:k=L.length:=by omega
   have HF:Hid (idxV p L=-1):=jh (idxV_none HB.out)
   go_wp2
   go_ret
   exact⟨by rw [HF.out];rfl,HC.out⟩
theorem containsidxRng {δ:Type} {R:Rp (Int × Int) δ} (hR:Good R) {S:Nat→Prop} (f:FuncId) (lb:Array Value) (p:δ→Bool) (L:List δ) (a:Option Addr) (c:Nat) (w:World) (eg:∀ args w,(callFunc f args).run Tryz.prog w=.ok (.enter f args) w) (h:ListR rngE R w S (a,L.length,c) L) (hp:GivesE rngE rngVal R S f lb p w) (hl:L.length≤1000000000) :
  Calls Tryz.prog 85 #[.slice a L.length c,.func (.func f) #[] lb] w fun e w'=>e=.returned (.bool (L.any p))∧Chg (fun _=>False) w w':=by
 have HL:=jh h
 have HP:=jh hp
 have HR:=jh hR
 clear h hp hR
 rcases idx_cases p L with ⟨k,x,-,-,h3,-,h5⟩|⟨h3,-,h5⟩
 all_goals
  have HI:=jh h3
  have HN:=jh h5
  clear h3 h5
  go_enter Tryz.func85,Tryz.ntmps85
  go_wp2_with fail
  refine (idxRng HR.out f lb p L a c _ eg HL.out HP.out hl).mono ?_
  rintro e w2 ⟨rfl,hc2⟩
  rw [HI.out]
  have HC:=jh hc2
  clear hc2
  go_wp2
  go_ret
  exact⟨by rw [HN.out];rfl,HC.out⟩
theorem idxEdge {δ:Type} {R:Rp EdgeD δ} (hR:Good R) {S:Nat→Prop} (f:FuncId) (lb:Array Value) (p:δ→Bool) (L:List δ) (a:Option Addr) (c:Nat) (w:World) (eg:∀ args w,(callFunc f args).run Tryz.prog w=.ok (.enter f args) w) (h:ListR edgeE R w S (a,L.length,c) L) (hp:GivesE edgeE edgeVal R S f lb p w) (hl:L.length≤1000000000) :
  Calls Tryz.prog 98 #[.slice a L.length c,.func (.func f) #[] lb] w fun e w'=>e=.returned (.int .i64 (idxV p L))∧Chg (fun _=>False) w w':=by
 have HL:=jh h
 have HP:=jh hp
 have HR:=jh hR
 clear h hp hR
 go_enter Tryz.func98,Tryz.ntmps98
 go_wp2
 go_loopw [8] (fun q wr=>∃ k:Nat,k≤L.length∧q=.int .i64 k∧(∀ (j:Nat) y,j<k→L[j]?=some y→p y=false)∧Chg (fun _=>False) w wr) (fun q _=>L.length-(intOf q).toNat)
 case atStart=>exact⟨0,by omega,rfl,fun j y h=>absurd h (Nat.not_lt_zero _),Chg.refl _ _⟩
 case round =>
  obtain⟨k,hk,rfl,hb,hc⟩:=hrel
  have HB:=jh hb
  have HC:=jh hc
  have HLW:=jh ((ListR.good HR.out).chg HL.out hc (fun _ _ h=>h))
  clear hb hc
  by_cases hkl:k<L.length
  ·have b9:decide ((k:Int)<(L.length:Int))=true:=by simp;omega
   obtain⟨x,d,g,o,hx,hr,rfl,-,-,hok,hcells⟩:=HLW.out.get3 (f:=encEdge) rfl hkl rfl
   have HX:=jh hx
   have hcall:=HP.out x d wr hr hok HC.out
   have hcs:=hcells
   clear hx hr hok HLW
   first|(have c0:=hcells _ rfl)|(obtain⟨c0,c1⟩:=hcells _ _ rfl)|(obtain⟨c0,c1,c2⟩:=hcells _ _ _ rfl)
   clear hcells hcs
   try unfold slV at c1
   try unfold slV at c2
   cases hxi:p d with
   | true =>
    rw [hxi] at hcall
    have HF:Hid (idxV p L=k):=jh (idxV_found HX.out hxi HB.out)
    have HCALL:=jh hcall
    clear hcall hxi
    go_wp2_with fail
    refine HCALL.out.mono ?_
    rintro e w2 ⟨rfl,hc2⟩
    have HC2:=jh (HC.out.trans hc2)
    clear hc2 c0
    go_wp2
    go_ret
    exact⟨by rw [HF.out];rfl,HC2.out⟩
   | false =>
    rw [hxi] at hcall
    have HB2:Hid (∀ (j:Nat) y,j<k+1→L[j]?=some y→p y=false):=jh (fun j y hj hy=>by
     by_cases he:j=k
     ·subst he;rw [HX.out] at hy;obtain rfl:=Option.some.inj hy;exact hxi
     ·exact HB.out j y (by omega) hy)
    have HCALL:=jh hcall
    clear hcall hxi
    go_wp2_with fail
    refine HCALL.out.mono ?_
    rintro e w2 ⟨rfl,hc2⟩
    have HC2:=jh (HC.out.trans hc2)
    clear hc2 c0
    go_wp2
    go_roundw
    case rel=>exact⟨k+1,by omega,by go_num,HB2.out,HC2.out⟩
    case measure=>simp [intOf];omega
  ·obtain rfl:k=L.length:=by omega
   have HF:Hid (idxV p L=-1):=jh (idxV_none HB.out)
   go_wp2
   go_ret
   exact⟨by rw [HF.out];rfl,HC.out⟩
theorem containsidxEdge {δ:Type} {R:Rp EdgeD δ} (hR:Good R) {S:Nat→Prop} (f:FuncId) (lb:Array Value) (p:δ→Bool) (L:List δ) (a:Option Addr) (c:Nat) (w:World) (eg:∀ args w,(callFunc f args).run Tryz.prog w=.ok (.enter f args) w) (h:ListR edgeE R w S (a,L.length,c) L) (hp:GivesE edgeE edgeVal R S f lb p w) (hl:L.length≤1000000000) :
  Calls Tryz.prog 42 #[.slice a L.length c,.func (.func f) #[] lb] w fun e w'=>e=.returned (.bool (L.any p))∧Chg (fun _=>False) w w':=by
 have HL:=jh h
 have HP:=jh hp
 have HR:=jh hR
 clear h hp hR
 rcases idx_cases p L with ⟨k,x,-,-,h3,-,h5⟩|⟨h3,-,h5⟩
 all_goals
  have HI:=jh h3
  have HN:=jh h5
  clear h3 h5
  go_enter Tryz.func42,Tryz.ntmps42
  go_wp2_with fail
  refine (idxEdge HR.out f lb p L a c _ eg HL.out HP.out hl).mono ?_
  rintro e w2 ⟨rfl,hc2⟩
  rw [HI.out]
  have HC:=jh hc2
  clear hc2
  go_wp2
  go_ret
  exact⟨by rw [HN.out];rfl,HC.out⟩
theorem idxSt {δ:Type} {R:Rp (Int × Sl × Sl) δ} (hR:Good R) {S:Nat→Prop} (f:FuncId) (lb:Array Value) (p:δ→Bool) (L:List δ) (a:Option Addr) (c:Nat) (w:World) (eg:∀ args w,(callFunc f args).run Tryz.prog w=.ok (.enter f args) w) (h:ListR stE R w S (a,L.length,c) L) (hp:GivesE stE stVal R S f lb p w) (hl:L.length≤1000000000) :
  Calls Tryz.prog 97 #[.slice a L.length c,.func (.func f) #[] lb] w fun e w'=>e=.returned (.int .i64 (idxV p L))∧Chg (fun _=>False) w w':=by
 have HL:=jh h
 have HP:=jh hp
 have HR:=jh hR
 clear h hp hR
 go_enter Tryz.func97,Tryz.ntmps97
 go_wp2
 go_loopw [8] (fun q wr=>∃ k:Nat,k≤L.length∧q=.int .i64 k∧(∀ (j:Nat) y,j<k→L[j]?=some y→p y=false)∧Chg (fun _=>False) w wr) (fun q _=>L.length-(intOf q).toNat)
 case atStart=>exact⟨0,by omega,rfl,fun j y h=>absurd h (Nat.not_lt_zero _),Chg.refl _ _⟩
 case round =>
  obtain⟨k,hk,rfl,hb,hc⟩:=hrel
  have HB:=jh hb
  have HC:=jh hc
  have HLW:=jh ((ListR.good HR.out).chg HL.out hc (fun _ _ h=>h))
  clear hb hc
  by_cases hkl:k<L.length
  ·have b9:decide ((k:Int)<(L.length:Int))=true:=by simp;omega
   obtain⟨x,d,g,o,hx,hr,rfl,-,-,hok,hcells⟩:=HLW.out.get3 (f:=encSt) rfl hkl rfl
   have HX:=jh hx
   have hcall:=HP.out x d wr hr hok HC.out
   have hcs:=hcells
   clear hx hr hok HLW
   first|(have c0:=hcells _ rfl)|(obtain⟨c0,c1⟩:=hcells _ _ rfl)|(obtain⟨c0,c1,c2⟩:=hcells _ _ _ rfl)
   clear hcells hcs
   try unfold slV at c1
   try unfold slV at c2
   cases hxi:p d with
   | true =>
    rw [hxi] at hcall
    have HF:Hid (idxV p L=k):=jh (idxV_found HX.out hxi HB.out)
    have HCALL:=jh hcall
    clear hcall hxi
    go_wp2_with fail
    refine HCALL.out.mono ?_
    rintro e w2 ⟨rfl,hc2⟩
    have HC2:=jh (HC.out.trans hc2)
    clear hc2 c0
    go_wp2
    go_ret
    exact⟨by rw [HF.out];rfl,HC2.out⟩
   | false =>
    rw [hxi] at hcall
    have HB2:Hid (∀ (j:Nat) y,j<k+1→L[j]?=some y→p y=false):=jh (fun j y hj hy=>by
     by_cases he:j=k
     ·subst he;rw [HX.out] at hy;obtain rfl:=Option.some.inj hy;exact hxi
     ·exact HB.out j y (by omega) hy)
    have HCALL:=jh hcall
    clear hcall hxi
    go_wp2_with fail
    refine HCALL.out.mono ?_
    rintro e w2 ⟨rfl,hc2⟩
    have HC2:=jh (HC.out.trans hc2)
    clear hc2 c0
    go_wp2
    go_roundw
    case rel=>exact⟨k+1,by omega,by go_num,HB2.out,HC2.out⟩
    case measure=>simp [intOf];omega
  ·obtain rfl:k=L.length:=by omega
   have HF:Hid (idxV p L=-1):=jh (idxV_none HB.out)
   go_wp2
   go_ret
   exact⟨by rw [HF.out];rfl,HC.out⟩
theorem containsidxSt {δ:Type} {R:Rp (Int × Sl × Sl) δ} (hR:Good R) {S:Nat→Prop} (f:FuncId) (lb:Array Value) (p:δ→Bool) (L:List δ) (a:Option Addr) (c:Nat) (w:World) (eg:∀ args w,(callFunc f args).run Tryz.prog w=.ok (.enter f args) w) (h:ListR stE R w S (a,L.length,c) L) (hp:GivesE stE stVal R S f lb p w) (hl:L.length≤1000000000) :
  Calls Tryz.prog 40 #[.slice a L.length c,.func (.func f) #[] lb] w fun e w'=>e=.returned (.bool (L.any p))∧Chg (fun _=>False) w w':=by
 have HL:=jh h
 have HP:=jh hp
 have HR:=jh hR
 clear h hp hR
 rcases idx_cases p L with ⟨k,x,-,-,h3,-,h5⟩|⟨h3,-,h5⟩
 all_goals
  have HI:=jh h3
  have HN:=jh h5
  clear h3 h5
  go_enter Tryz.func40,Tryz.ntmps40
  go_wp2_with fail
  refine (idxSt HR.out f lb p L a c _ eg HL.out HP.out hl).mono ?_
  rintro e w2 ⟨rfl,hc2⟩
  rw [HI.out]
  have HC:=jh hc2
  clear hc2
  go_wp2
  go_ret
  exact⟨by rw [HN.out];rfl,HC.out⟩
theorem idxLs {δ:Type} {R:Rp (Int × Sl × Sl) δ} (hR:Good R) {S:Nat→Prop} (f:FuncId) (lb:Array Value) (p:δ→Bool) (L:List δ) (a:Option Addr) (c:Nat) (w:World) (eg:∀ args w,(callFunc f args).run Tryz.prog w=.ok (.enter f args) w) (h:ListR lsE R w S (a,L.length,c) L) (hp:GivesE lsE lsVal R S f lb p w) (hl:L.length≤1000000000) :
  Calls Tryz.prog 137 #[.slice a L.length c,.func (.func f) #[] lb] w fun e w'=>e=.returned (.int .i64 (idxV p L))∧Chg (fun _=>False) w w':=by
 have HL:=jh h
 have HP:=jh hp
 have HR:=jh hR
 clear h hp hR
 go_enter Tryz.func137,Tryz.ntmps137
 go_wp2
 go_loopw [8] (fun q wr=>∃ k:Nat,k≤L.length∧q=.int .i64 k∧(∀ (j:Nat) y,j<k→L[j]?=some y→p y=false)∧Chg (fun _=>False) w wr) (fun q _=>L.length-(intOf q).toNat)
 case atStart=>exact⟨0,by omega,rfl,fun j y h=>absurd h (Nat.not_lt_zero _),Chg.refl _ _⟩
 case round =>
  obtain⟨k,hk,rfl,hb,hc⟩:=hrel
  have HB:=jh hb
  have HC:=jh hc
  have HLW:=jh ((ListR.good HR.out).chg HL.out hc (fun _ _ h=>h))
  clear hb hc
  by_cases hkl:k<L.length
  ·have b9:decide ((k:Int)<(L.length:Int))=true:=by simp;omega
   obtain⟨x,d,g,o,hx,hr,rfl,-,-,hok,hcells⟩:=HLW.out.get3 (f:=encLs) rfl hkl rfl
   have HX:=jh hx
   have hcall:=HP.out x d wr hr hok HC.out
   have hcs:=hcells
   clear hx hr hok HLW
   first|(have c0:=hcells _ rfl)|(obtain⟨c0,c1⟩:=hcells _ _ rfl)|(obtain⟨c0,c1,c2⟩:=hcells _ _ _ rfl)
   clear hcells hcs
   try unfold slV at c1
   try unfold slV at c2
   cases hxi:p d with
   | true =>
    rw [hxi] at hcall
    have HF:Hid (idxV p L=k):=jh (idxV_found HX.out hxi HB.out)
    have HCALL:=jh hcall
    clear hcall hxi
    go_wp2_with fail
    refine HCALL.out.mono ?_
    rintro e w2 ⟨rfl,hc2⟩
    have HC2:=jh (HC.out.trans hc2)
    clear hc2 c0
    go_wp2
    go_ret
    exact⟨by rw [HF.out];rfl,HC2.out⟩
   | false =>
    rw [hxi] at hcall
    have HB2:Hid (∀ (j:Nat) y,j<k+1→L[j]?=some y→p y=false):=jh (fun j y hj hy=>by
     by_cases he:j=k
     ·subst he;rw [HX.out] at hy;obtain rfl:=Option.some.inj hy;exact hxi
     ·exact HB.out j y (by omega) hy)
    have HCALL:=jh hcall
    clear hcall hxi
    go_wp2_with fail
    refine HCALL.out.mono ?_
    rintro e w2 ⟨rfl,hc2⟩
    have HC2:=jh (HC.out.trans hc2)
    clear hc2 c0
    go_wp2
    go_roundw
    case rel=>exact⟨k+1,by omega,by go_num,HB2.out,HC2.out⟩
    case measure=>simp [intOf];omega
  ·obtain rfl:k=L.length:=by omega
   have HF:Hid (idxV p L=-1):=jh (idxV_none HB.out)
   go_wp2
   go_ret
   exact⟨by rw [HF.out];rfl,HC.out⟩
theorem containsidxLs {δ:Type} {R:Rp (Int × Sl × Sl) δ} (hR:Good R) {S:Nat→Prop} (f:FuncId) (lb:Array Value) (p:δ→Bool) (L:List δ) (a:Option Addr) (c:Nat) (w:World) (eg:∀ args w,(callFunc f args).run Tryz.prog w=.ok (.enter f args) w) (h:ListR lsE R w S (a,L.length,c) L) (hp:GivesE lsE lsVal R S f lb p w) (hl:L.length≤1000000000) :
  Calls Tryz.prog 94 #[.slice a L.length c,.func (.func f) #[] lb] w fun e w'=>e=.returned (.bool (L.any p))∧Chg (fun _=>False) w w':=by
 have HL:=jh h
 have HP:=jh hp
 have HR:=jh hR
 clear h hp hR
 rcases idx_cases p L with ⟨k,x,-,-,h3,-,h5⟩|⟨h3,-,h5⟩
 all_goals
  have HI:=jh h3
  have HN:=jh h5
  clear h3 h5
  go_enter Tryz.func94,Tryz.ntmps94
  go_wp2_with fail
  refine (idxLs HR.out f lb p L a c _ eg HL.out HP.out hl).mono ?_
  rintro e w2 ⟨rfl,hc2⟩
  rw [HI.out]
  have HC:=jh hc2
  clear hc2
  go_wp2
  go_ret
  exact⟨by rw [HN.out];rfl,HC.out⟩
end Go.Proofs.YtgnpmceimpjheaaGreat
namespace Go.Proofs.YtgnpmceimpjheaaGreat
open Go.RowKit
def risingB:List Int→Int→Int→Bool
 | [],_,_=>true
 | n :: l,least,most=>if n<least∨most≤n then false else risingB l (n+1) most
def badLe (states:Int) (e:Int × Int):Bool:=decide (e.2<0) || decide (states≤e.2)
def kindB (k:Int) (na ne:Nat):Bool :=
 if k=0 then decide (na=0) else if k=1 then decide (na=1) && decide (ne=0) else if k=3 then decide (1<na) && decide (ne=0) else decide (k=2) && decide (na=0) && decide (ne=0)
def fineB (states alts tokens:Int) (s:LsD):Bool :=
 !s.2.2.any (badLe states) && risingB s.2.1 0 alts && risingB (s.2.2.map (·.1)) (-1) tokens && kindB s.1 s.2.1.length s.2.2.length
def mayAuto (A:List LsD) (alts tokens:Int):Bool:=decide (1≤A.length) && decide (A.length≤4096) && !A.any (fun s=>!fineB A.length alts tokens s)
theorem rising_any (l:List Int) (least most:Int) (a:Option Addr) (c:Nat) (S:Nat→Prop) (w:World) (h:intE.InS w S (a,l.length,c) l) (hl:l.length≤1000000000) (h1:-1≤least∧least≤1000000001) (h2:most≤1000000000) (h3:-1000000000≤most) :
  Calls Tryz.prog 138 #[.slice a l.length c,.int .i64 least,.int .i64 most] w fun e w'=>e=.returned (.bool (risingB l least most))∧w'=w:=by
 have HL:=jh h
 clear h
 go_enter Tryz.func138,Tryz.ntmps138
 go_wp2
 go_loopw [1,11] (fun ls q wr=>∃ (k:Nat) (m:Int),k≤l.length∧q=.int .i64 k∧ls=.int .i64 m∧-1≤m∧m≤1000000001∧risingB (l.drop k) m most=risingB l least most∧wr=w) (fun _ q _=>l.length-(intOf q).toNat)
 case atStart=>exact⟨0,least,by omega,rfl,rfl,h1.1,h1.2,rfl,rfl⟩
 case round =>
  obtain⟨k,m,hk,rfl,rfl,hm1,hm2,hr,rfl⟩:=hrel
  have HR:=jh hr
  clear hr h1
  by_cases hkl:k<l.length
  ·have b9:decide ((k:Int)<(l.length:Int))=true:=by simp;omega
   obtain⟨x,g,o,hx,rfl,c0,x1,x2,-,-⟩:=HL.out.getI hkl
   have HD:Hid (l.drop k=x :: l.drop (k+1)):=jh (by
    rw [List.drop_eq_getElem_cons hkl]
    rw [List.getElem?_eq_getElem hkl] at hx
    rw [Option.some.inj hx])
   rw [HD.out] at HR
   clear hx
   by_cases c1:x<m
   ·have d1:decide (x<m)=true:=decide_eq_true c1
    have HF:Hid (risingB l least most=false):=jh (by rw [← HR.out];simp [risingB,c1])
    go_wp2
    go_ret
    exact⟨by rw [HF.out];rfl,rfl⟩
   ·have d1:decide (x<m)=false:=decide_eq_false c1
    by_cases c2:most≤x
    ·have d2:decide (most≤x)=true:=decide_eq_true c2
     have HF:Hid (risingB l least most=false):=jh (by rw [← HR.out];simp [risingB,c2])
     go_wp2
     go_ret
     exact⟨by rw [HF.out];rfl,rfl⟩
    ·have d2:decide (most≤x)=false:=decide_eq_false c2
     have HN:Hid (risingB (l.drop (k+1)) (x+1) most=risingB l least most):=jh (by rw [← HR.out];simp [risingB,c1,c2])
     go_wp2
     go_roundw
     case rel=>exact⟨k+1,_,by omega,by go_num,rfl,by omega,by omega,HN.out,by trivial⟩
     case measure=>simp [intOf];omega
  ·obtain rfl:k=l.length:=by omega
   have b9:decide ((l.length:Int)<(l.length:Int))=false:=by simp
   have HF:Hid (risingB l least most=true):=jh (by rw [← HR.out,List.drop_length];rfl)
   go_wp2
   go_ret
   exact⟨by rw [HF.out];rfl,rfl⟩
theorem kind_cases {k:Int} (h:U8 k):k=0∨k=1∨k=2∨k=3∨3<k:=by
 have:=h.1
 omega
theorem lsFine_any (d:LsD) (aa ea:Option Addr) (ac ec:Nat) (states alts tokens:Nat) (S:Nat→Prop) (w:World) (hk:U8 d.1) (ha:intE.InS w S (aa,d.2.1.length,ac) d.2.1) (he:ledgeE.InS w S (ea,d.2.2.length,ec) d.2.2) (hal:d.2.1.length≤1000000000) (hel:d.2.2.length≤1000000000)
  (h1:states≤1000000000) (h2:alts≤1000000000) (h3:tokens≤1000000000) :
  Calls Tryz.prog 96 #[.agg #[.int .u8 d.1,.slice aa d.2.1.length ac,.slice ea d.2.2.length ec],.int .i64 states,.int .i64 alts,.int .i64 tokens] w fun e w'=>e=.returned (.bool (fineB states alts tokens d))∧Chg (fun _=>False) w w':=by
 obtain⟨kd,al,ed⟩:=d
 simp only at hk ha he hal hel ⊢
 have HA:=jh ha
 have HE:=jh (ListR.of he)
 have HCL:Hid (∀ wx,Chg (fun _=>False) (w.alloc (.cells #[.int .u8 kd,.slice aa al.length ac,.slice ea ed.length ec] 67)) wx→wx.cell? ⟨w.heap.size,0,none⟩=some (.int .u8 kd)∧wx.cell? ⟨w.heap.size,1,none⟩=some (.slice aa al.length ac)∧wx.cell? ⟨w.heap.size,2,none⟩=some (.slice ea ed.length ec)) :=
  jh fun wx hc=>⟨hc.cellS (by simp) (fun h=>h),hc.cellS (by simp) (fun h=>h),hc.cellS (by simp) (fun h=>h)⟩
 clear ha he
 go_enter Tryz.func96,Tryz.ntmps96
 go_wp2_with (at_make;refine intE.wpList_make rfl _ _ _ rfl rfl _ _ _ _ ed.length ed.length rfl rfl rfl (by omega) (by omega) (by omega) ?_;intro w1 HR1 HC1;obtain⟨f0,f1,f2⟩:=HCL.out w1 HC1.out)
 clear f0 f1 f2
 obtain⟨bb,hbb⟩:∃ b,b=w.heap.size+1:=⟨_,rfl⟩
 have HBB:Hid (bb=w.heap.size+1):=jh hbb
 have HC01:Hid (Chg (fun _=>False) w w1):=jh (((Chg.refl _ w).alloc _).trans HC1.out)
 have HO1:Hid (intE.Own w1 bb (.slice (some ⟨bb,0,none⟩) ed.length ed.length) (List.replicate ed.length 0)):=jh (by
  have hr:=HR1.out
  rw [show (w.alloc (.cells #[.int .u8 kd,.slice aa al.length ac,.slice ea ed.length ec] 67)).heap.size=bb by rw [hbb];simp] at hr
  exact .inr ⟨bb,List.replicate ed.length 0,by simp,Nat.le_refl _,hr,List.prefix_refl _,by simp [maxLen];omega⟩)
 rw [← hbb]
 clear hbb HR1
 go_loopw [19] (fun q wr=>∃ (k:Nat) (Y:List Int),k≤ed.length∧q=.int .i64 k∧Y.length=ed.length∧(∀ i,i<k→Y[i]?=(ed.map (·.1))[i]?)∧(∀ (j:Nat) e,j<k→ed[j]?=some e→badLe states e=false)∧intE.Own wr bb (.slice (some ⟨bb,0,none⟩) ed.length ed.length) Y∧Chg (·=bb) w1 wr) (fun q _=>ed.length-(intOf q).toNat)
 case atStart=>exact⟨0,_,by omega,rfl,by simp,fun i hi=>absurd hi (Nat.not_lt_zero _),fun j e hj=>absurd hj (Nat.not_lt_zero _),HO1.out,Chg.refl _ _⟩
 case round =>
  clear HO1
  obtain⟨k,Y,hkl0,rfl,hyl,hye,hnb,hyo,hcw⟩:=hrel
  have HYL:=jh hyl
  have HYE:=jh hye
  have HNB:=jh hnb
  have HYO:=jh hyo
  have HCW:=jh hcw
  have HCA:Hid (Chg (fun _=>False) w wr):=jh (HC01.out.trans2 hcw (fun g hg e=>by have:=HBB.out;omega))
  have HFR:Hid (wr.cell? ⟨w.heap.size,0,none⟩=some (.int .u8 kd)∧wr.cell? ⟨w.heap.size,1,none⟩=some (.slice aa al.length ac)∧wr.cell? ⟨w.heap.size,2,none⟩=some (.slice ea ed.length ec)):=jh (by
   obtain⟨f0,f1,f2⟩:=HCL.out w1 HC1.out
   have hb:¬ w.heap.size=bb:=by have:=HBB.out;omega
   exact⟨hcw.cellS f0 hb,hcw.cellS f1 hb,hcw.cellS f2 hb⟩)
  clear hyl hye hnb hyo hcw
  by_cases hkl:k<ed.length
  ·have b9:decide ((k:Int)<(ed.length:Int))=true:=by simp;omega
   obtain⟨x,d,g,o,hd,hx,rfl,-,hgl,hok,hcells⟩:=((ListR.good eqR.good).chg HE.out HCA.out (fun _ _ h=>h)).get2 (f:=encPair) rfl hkl rfl
   obtain rfl:x=d:=hx
   obtain⟨c0,c1⟩:=hcells _ _ rfl
   obtain⟨tk,tv⟩:=x
   simp only at c0 c1
   have HD:=jh hd
   obtain⟨⟨ok1,ok2⟩,ok3,ok4⟩:=hok
   simp only at ok1 ok2 ok3 ok4
   have HY1:Hid (I.Byte tk):=jh ⟨ok1,ok2⟩
   obtain⟨w2,hw2⟩:∃ W,W=wr.alloc (.cells #[.int .i64 tk,.int .i64 tv] 149):=⟨_,rfl⟩
   have HC2:Hid (Chg (fun _=>False) wr w2):=jh (by rw [hw2];exact (Chg.refl _ _).alloc _)
   have HO2:=jh (HYO.out.chg HC2.out (fun _ _ _ h=>h))
   obtain⟨g',x',-,-,hg',-,e0,ez,-⟩:=intOwn_get HO2.out (k:=k) (by rw [HYL.out];exact hkl)
   injection hg' with hg'
   injection hg' with hg'
   subst hg'
   have HOS:=jh (intOwn_set HO2.out (k:=k) (by rw [HYL.out];exact hkl) HY1.out)
   have hsc:=setCellChg w2 bb k (.int .i64 tk)
   have q0:(w2.setCell ⟨bb,k,none⟩ (.int .i64 tk)).cell? ⟨wr.heap.size,1,none⟩=some (.int .i64 tv):=by
    refine hsc.cellS (p:=⟨wr.heap.size,1,none⟩) ?_ (by have:=HYO.out.blk (g:=bb) rfl;show ¬ wr.heap.size=bb;omega)
    rw [hw2,World.cell?_alloc_new];rfl
   have HCW3:Hid (Chg (·=bb) w1 (w2.setCell ⟨bb,k,none⟩ (.int .i64 tk))):=jh ((HCW.out.trans HC2.out.any).trans hsc)
   have HYE3:Hid (∀ i,i<k+1→(Y.set k tk)[i]?=(ed.map (·.1))[i]?):=jh (fun i hi=>by
    by_cases hik:i=k
    ·subst hik
     rw [List.getElem?_set_self (by rw [HYL.out];exact hkl),List.getElem?_map,HD.out];rfl
    ·rw [List.getElem?_set_ne (Ne.symm hik)]
     exact HYE.out i (by omega))
   have hbl:bb<wr.heap.size:=(HYO.out.blk (g:=bb) rfl).2
   have HT2:Hid (w2.cell? ⟨wr.heap.size,0,none⟩=some (.int .i64 tk)):=jh (by rw [hw2,World.cell?_alloc_new];rfl)
   clear hd hcells hsc
   go_upto_region 5 with (fail)
   rw [← hw2]
   clear hw2 c0 c1
   have q1:w2.cell? ⟨wr.heap.size,0,none⟩=some (.int .i64 tk):=HT2.out
   have HCF:Hid (Chg (fun _=>False) w (w2.setCell ⟨bb,k,none⟩ (.int .i64 tk))):=jh (HC01.out.trans2 HCW3.out (fun g hg e=>by have:=HBB.out;omega))
   have hsb:(states:Int)≤1000000000:=by omega
   by_cases h0:tv<0
   ·have d1:decide (tv<0)=true:=decide_eq_true h0
    have HF:Hid (fineB states alts tokens (kd,al,ed)=false):=jh (by
     have:ed.any (badLe states)=true:=List.any_eq_true.2 ⟨_,List.mem_of_getElem? HD.out,by simp [badLe,h0]⟩
     simp [fineB,this])
    go_wp2
    go_ret
    exact⟨by rw [HF.out];rfl,HCF.out⟩
   ·have d1:decide (tv<0)=false:=decide_eq_false h0
    by_cases h4:(states:Int)≤tv
    ·have d2:decide ((states:Int)≤tv)=true:=decide_eq_true h4
     have HF:Hid (fineB states alts tokens (kd,al,ed)=false):=jh (by
      have:ed.any (badLe states)=true:=List.any_eq_true.2 ⟨_,List.mem_of_getElem? HD.out,by simp [badLe,h4]⟩
      simp [fineB,this])
     go_wp2
     go_ret
     exact⟨by rw [HF.out];rfl,HCF.out⟩
    ·have d2:decide ((states:Int)≤tv)=false:=decide_eq_false h4
     have HNB2:Hid (∀ (j:Nat) e,j<k+1→ed[j]?=some e→badLe states e=false):=jh (fun j e hj hje=>by
      by_cases hjk:j=k
      ·subst hjk
       rw [HD.out] at hje
       obtain rfl:=Option.some.inj hje
       simp [badLe,h0,h4]
      ·exact HNB.out j e (by omega) hje)
     go_wp2
     go_roundw
     case rel=>exact⟨k+1,_,by omega,by go_num,by rw [List.length_set];exact HYL.out,HYE3.out,HNB2.out,HOS.out,HCW3.out⟩
     case measure=>simp [intOf];omega
  ·obtain rfl:k=ed.length:=by omega
   have b9:decide ((ed.length:Int)<(ed.length:Int))=false:=by simp
   have hYE:Y=ed.map (·.1):=List.ext_getElem? (fun i=>by
    by_cases hi:i<ed.length
    ·exact HYE.out i hi
    ·rw [List.getElem?_eq_none (by rw [HYL.out];omega),List.getElem?_eq_none (by rw [List.length_map];omega)])
   have HANY:Hid (ed.any (badLe states)=false):=jh (by
    rw [List.any_eq_false]
    intro e he
    obtain⟨j,hj⟩:=List.getElem?_of_mem he
    rw [HNB.out j e (List.getElem?_eq_some_iff.1 hj).1 hj]
    exact Bool.false_ne_true)
   have HFF:Hid (fineB states alts tokens (kd,al,ed)=(risingB al 0 alts && risingB (ed.map (·.1)) (-1) tokens && kindB kd al.length ed.length)):=jh (by simp [fineB,HANY.out])
   have HBY:Hid (intE.InS wr (fun _=>True) (some ⟨bb,0,none⟩,(ed.map (·.1)).length,ed.length) (ed.map (·.1))):=jh (by
    rw [← hYE]
    have h:=(HYO.out.in' (c':=ed.length) (Nat.le_refl _))
    have h2:=(Elt.In.inS h).mono (S':=fun _=>True) (fun _ _ _=>trivial)
    rw [HYL.out]
    exact h2)
   have HAW:Hid (intE.InS wr S (aa,al.length,ac) al):=jh (HA.out.chg HCA.out (fun _ _ h=>h))
   obtain⟨f0,f1,f2⟩:=HFR.out
   clear hYE HYE HNB HYO
   have hr1:=rising_any al 0 alts aa ac S wr HAW.out hal ⟨by omega,by omega⟩ (by omega) (by omega)
   have hr2:=rising_any (ed.map (·.1)) (-1) tokens (some ⟨bb,0,none⟩) ed.length (fun _=>True) wr HBY.out (by rw [List.length_map];exact hel) ⟨by omega,by omega⟩ (by omega) (by omega)
   rw [List.length_map] at hr2
   cases hra:risingB al 0 alts with
   | false =>
    rw [hra] at hr1 HFF
    have HF:Hid (fineB states alts tokens (kd,al,ed)=false):=jh (by rw [HFF.out];rfl)
    have HR1:=jh hr1
    clear hr1 hr2 hra
    go_wp2_with fail
    refine HR1.out.mono ?_
    rintro e w2 ⟨rfl,rfl⟩
    go_wp2
    go_ret
    exact⟨by rw [HF.out];rfl,HCA.out⟩
   | true =>
    rw [hra] at hr1 HFF
    cases hrb:risingB (ed.map (·.1)) (-1) tokens with
    | false =>
     rw [hrb] at hr2 HFF
     have HF:Hid (fineB states alts tokens (kd,al,ed)=false):=jh (by rw [HFF.out];rfl)
     have HR1:=jh hr1
     have HR2:=jh hr2
     clear hr1 hr2 hra hrb
     go_wp2_with fail
     refine HR1.out.mono ?_
     rintro e w2 ⟨rfl,rfl⟩
     go_wp2_with fail
     refine HR2.out.mono ?_
     rintro e w3 ⟨rfl,rfl⟩
     go_wp2
     go_ret
     exact⟨by rw [HF.out];rfl,HCA.out⟩
    | true =>
     rw [hrb] at hr2 HFF
     have HF:Hid (fineB states alts tokens (kd,al,ed)=kindB kd al.length ed.length):=jh (by rw [HFF.out];rfl)
     have HR1:=jh hr1
     have HR2:=jh hr2
     clear hr1 hr2 hra hrb
     go_wp2_with fail
     refine HR1.out.mono ?_
     rintro e w2 ⟨rfl,rfl⟩
     go_wp2_with fail
     refine HR2.out.mono ?_
     rintro e w3 ⟨rfl,rfl⟩
     have HCA2:=HCA
     clear HR1 HR2 HANY HBY HAW
     have hfacts:∃ x0 x1 x2 y0:Bool,(((al.length:Int) == 0)=x0∧(al.length == 0)=x0∧decide (al.length=0)=x0)∧(((al.length:Int) == 1)=x1∧(al.length == 1)=x1∧decide (al.length=1)=x1)∧(decide ((1:Int)<(al.length:Int))=x2∧decide (1<al.length)=x2)∧(((ed.length:Int) == 0)=y0∧(ed.length == 0)=y0∧decide (ed.length=0)=y0):=by
      refine⟨_,_,_,_,⟨?_,?_,rfl⟩,⟨?_,?_,rfl⟩,⟨?_,rfl⟩,⟨?_,?_,rfl⟩⟩
      all_goals first|rfl|(rw [Bool.eq_iff_iff];simp <;> omega)
     obtain⟨x0,x1,x2,y0,⟨p0,p0',p0''⟩,⟨p1,p1',p1''⟩,⟨p2,p2'⟩,⟨r0,r0',r0''⟩⟩:=hfacts
     have HP:Hid (kindB kd al.length ed.length=if kd=0 then x0 else if kd=1 then x1 && y0 else if kd=3 then x2 && y0 else decide (kd=2) && x0 && y0):=jh (by rw [kindB,p0'',p1'',p2',r0''])
     clear p0'' p1'' r0''
     rcases kind_cases hk with h5|h5|h5|h5|h5
     ·subst h5
      have HQ:Hid (fineB states alts tokens (0,al,ed)=x0):=jh (by rw [HF.out,HP.out];rfl)
      go_wp2
      go_ret
      exact⟨by rw [HQ.out];rfl,HCA.out⟩
     ·subst h5
      have HQ:Hid (fineB states alts tokens (1,al,ed)=(x1 && y0)):=jh (by rw [HF.out,HP.out];rfl)
      cases x1
      ·go_wp2
       go_ret
       exact⟨by rw [HQ.out];rfl,HCA.out⟩
      ·go_wp2
       go_ret
       exact⟨by rw [HQ.out];rfl,HCA.out⟩
     ·subst h5
      have HQ:Hid (fineB states alts tokens (2,al,ed)=(x0 && y0)):=jh (by rw [HF.out,HP.out];rfl)
      cases x0
      ·go_wp2
       go_ret
       exact⟨by rw [HQ.out];rfl,HCA.out⟩
      ·go_wp2
       go_ret
       exact⟨by rw [HQ.out];rfl,HCA.out⟩
     ·subst h5
      have HQ:Hid (fineB states alts tokens (3,al,ed)=(x2 && y0)):=jh (by rw [HF.out,HP.out];rfl)
      cases x2
      ·go_wp2
       go_ret
       exact⟨by rw [HQ.out];rfl,HCA.out⟩
      ·go_wp2
       go_ret
       exact⟨by rw [HQ.out];rfl,HCA.out⟩
     ·have HQ:Hid (fineB states alts tokens (kd,al,ed)=false):=jh (by rw [HF.out,HP.out,if_neg (by omega),if_neg (by omega),if_neg (by omega),decide_eq_false (show ¬ kd=2 by omega)];rfl)
      have n0:(kd == 0)=false:=by simp;omega
      have n1:(kd == 1)=false:=by simp;omega
      have n2:(kd == 2)=false:=by simp;omega
      have n3:(kd == 3)=false:=by simp;omega
      go_wp2
      go_ret
      exact⟨by rw [HQ.out];rfl,HCA.out⟩
end Go.Proofs.YtgnpmceimpjheaaGreat
namespace Go.Proofs.YtgnpmceimpjheaaGreat
open Go.RowKit
def bR {β δ:Type} (R:Rp β δ) (P:δ→Prop):Rp β δ:=fun w S x d=>R w S x d∧P d
theorem bR.good {β δ:Type} {R:Rp β δ} {P:δ→Prop} (h:Good R):Good (bR R P):=⟨fun hr hc hs=>⟨h.chg hr.1 hc hs,hr.2⟩,fun hr hs=>⟨h.mono hr.1 hs,hr.2⟩⟩
theorem ListR.bnd {β δ:Type} {E:Elt β} {R:Rp β δ} {P:δ→Prop} {w:World} {S:Nat→Prop} {s:Sl} {L:List δ} (h:ListR E R w S s L) (hp:∀ d∈L,P d):ListR E (bR R P) w S s L:=by
 obtain⟨X,h1,h2,h3⟩:=h
 exact⟨X,h1,h2,fun j x d hx hd=>⟨h3 j x d hx hd,hp d (List.mem_of_getElem? hd)⟩⟩
theorem allocNew {w:World} {b:Nat} (v:Value) (e:TypeId) (h:b=w.heap.size):(w.alloc (.cells #[v] e)).cell? ⟨b,0,none⟩=some v:=by
 rw [h,World.cell?_alloc_new];rfl
theorem allocOld {w:World} {p:Addr} {u:Value} (o:Obj) (h:w.cell? p=some u):(w.alloc o).cell? p=some u:=((Chg.refl (fun _=>False) w).alloc o).cellS h (fun h=>h)
def lsB (d:LsD):Prop:=d.2.1.length≤1000000000∧d.2.2.length≤1000000000
theorem gives_ls (bn ba bt n alts tokens:Nat) (S:Nat→Prop) (w:World) (h1:n≤1000000000) (h2:alts≤1000000000) (h3:tokens≤1000000000) (cn:w.cell? ⟨bn,0,none⟩=some (.int .i64 n)) (ca:w.cell? ⟨ba,0,none⟩=some (.int .i64 alts)) (ct:w.cell? ⟨bt,0,none⟩=some (.int .i64 tokens)) :
  GivesE lsE lsVal (bR lsR lsB) S 95 #[.pointer (some ⟨bn,0,none⟩),.pointer (some ⟨ba,0,none⟩),.pointer (some ⟨bt,0,none⟩)] (fun s=>!fineB n alts tokens s) w:=by
 intro y d w' ⟨⟨hy1,hk,hya,hye⟩,hb1,hb2⟩ hok hc
 obtain⟨kd,al,ed⟩:=d
 obtain⟨yk,⟨aa,an,ac⟩,⟨ea,en,ec⟩⟩:=y
 simp only at hy1 hk hya hye hb1 hb2
 obtain⟨rfl,-⟩:=hya.len
 obtain⟨rfl,-⟩:=hye.len
 subst hy1
 have hd:=(Chg.refl (fun _=>False) w').alloc (.cells #[.int .u8 yk,.slice aa al.length ac,.slice ea ed.length ec] 67)
 have HF:=jh (lsFine_any (yk,al,ed) aa ea ac ec n alts tokens S _ hk (hya.chg hd (fun _ _ h=>h)) (hye.chg hd (fun _ _ h=>h)) hb1 hb2 h1 h2 h3)
 have qn:=allocOld (.cells #[.int .u8 yk,.slice aa al.length ac,.slice ea ed.length ec] 67) (hc.cellS cn (fun h=>h))
 have qa:=allocOld (.cells #[.int .u8 yk,.slice aa al.length ac,.slice ea ed.length ec] 67) (hc.cellS ca (fun h=>h))
 have qt:=allocOld (.cells #[.int .u8 yk,.slice aa al.length ac,.slice ea ed.length ec] 67) (hc.cellS ct (fun h=>h))
 clear cn ca ct hd hya hye
 show Calls Tryz.prog 95 #[.agg #[.int .u8 yk,.slice aa al.length ac,.slice ea ed.length ec],.pointer (some ⟨bn,0,none⟩),.pointer (some ⟨ba,0,none⟩),.pointer (some ⟨bt,0,none⟩)] w' _
 obtain⟨b,hb⟩:∃ b,fineB n alts tokens (yk,al,ed)=b:=⟨_,rfl⟩
 rw [hb] at HF
 have HB:=jh hb
 clear hb
 simp only at HF
 go_enter Tryz.func95,Tryz.ntmps95
 go_wp2_with fail
 refine HF.out.mono ?_
 rintro e w2 ⟨rfl,hc2⟩
 have HC:=jh (((Chg.refl _ w').alloc _).trans hc2)
 clear hc2
 go_wp2
 go_ret
 exact⟨by show Ending.returned (.bool (!b))=_;rw [← HB.out],HC.out⟩
theorem prunesMay_any (A:List LsD) (a:Option Addr) (c alts tokens:Nat) (S:Nat→Prop) (w:World) (h:autoR w S (a,A.length,c) A) (hA:A.length≤1000000000) (hb:∀ d∈A,lsB d) (h2:alts≤1000000000) (h3:tokens≤1000000000) :
  Calls Tryz.prog 39 #[.agg #[.slice a A.length c],.int .i64 alts,.int .i64 tokens] w fun e w'=>e=.returned (.bool (mayAuto A alts tokens))∧Chg (fun _=>False) w w':=by
 have HL:=jh (ListR.bnd h hb)
 clear h hb
 have hmf:∀ (fn:Fn) (first cap:Array Value) (w:World),(Instr.makeFunc fn first cap).run Tryz.prog w=.ok (.func fn first cap) w:=fun _ _ _ _=>rfl
 by_cases h4:A.length<1
 ·have d1:decide (A.length<1)=true:=decide_eq_true h4
  have d1':decide ((A.length:Int)<1)=true:=decide_eq_true (by omega)
  have HF:Hid (mayAuto A alts tokens=false):=jh (by simp only [mayAuto,decide_eq_false (show ¬ 1≤A.length by omega),Bool.false_and])
  go_enter Tryz.func39,Tryz.ntmps39
  go_wp2
  go_ret
  exact⟨by rw [HF.out];rfl,((((Chg.refl _ w).alloc _).alloc _).alloc _).alloc _⟩
 ·have d1:decide (A.length<1)=false:=decide_eq_false h4
  have d1':decide ((A.length:Int)<1)=false:=decide_eq_false (by omega)
  by_cases h5:4096<A.length
  ·have d2:decide (4096<A.length)=true:=decide_eq_true h5
   have d2':decide ((4096:Int)<(A.length:Int))=true:=decide_eq_true (by omega)
   have HF:Hid (mayAuto A alts tokens=false):=jh (by simp only [mayAuto,decide_eq_false (show ¬ A.length≤4096 by omega),Bool.and_false,Bool.false_and])
   go_enter Tryz.func39,Tryz.ntmps39
   go_wp2
   go_ret
   exact⟨by rw [HF.out];rfl,((((Chg.refl _ w).alloc _).alloc _).alloc _).alloc _⟩
  ·have d2:decide (4096<A.length)=false:=decide_eq_false h5
   have d2':decide ((4096:Int)<(A.length:Int))=false:=decide_eq_false (by omega)
   have HF:Hid (mayAuto A alts tokens=!A.any (fun s=>!fineB A.length alts tokens s)):=jh (by simp only [mayAuto,decide_eq_true (show 1≤A.length by omega),decide_eq_true (show A.length≤4096 by omega),Bool.true_and])
   have eg:=enters_of Tryz.func95 (by kernel_rfl) rfl
   go_enter Tryz.func39,Tryz.ntmps39
   go_upto_region 4 with (fail)
   obtain⟨wv,hwv⟩:∃ W,W=((((w.alloc (.cells #[.slice a A.length c] 63)).alloc (.cells #[.int .i64 alts] 3)).alloc (.cells #[.int .i64 tokens] 3)).alloc (.cells #[.int .i64 A.length] 3)):=⟨_,rfl⟩
   have HCV:Hid (Chg (fun _=>False) w wv):=jh (by rw [hwv];exact ((((Chg.refl _ w).alloc _).alloc _).alloc _).alloc _)
   have q0:wv.cell? ⟨w.heap.size,0,none⟩=some (.slice a A.length c):=by rw [hwv];exact allocOld _ (allocOld _ (allocOld _ (allocNew _ _ rfl)))
   have q1:wv.cell? ⟨w.heap.size+1,0,none⟩=some (.int .i64 alts):=by rw [hwv];exact allocOld _ (allocOld _ (allocNew _ _ (by simp)))
   have q2:wv.cell? ⟨w.heap.size+1+1,0,none⟩=some (.int .i64 tokens):=by rw [hwv];exact allocOld _ (allocNew _ _ (by simp))
   have q3:wv.cell? ⟨w.heap.size+1+1+1,0,none⟩=some (.int .i64 A.length):=by rw [hwv];exact allocNew _ _ (by simp)
   rw [← hwv]
   clear hwv
   have HC:=jh (containsidxLs (bR.good lsR.good) 95 _ _ A a c wv eg ((ListR.good (bR.good lsR.good)).chg HL.out HCV.out (fun _ _ h=>h)) (gives_ls (w.heap.size+1+1+1) (w.heap.size+1) (w.heap.size+1+1) A.length alts tokens S wv hA h2 h3 q3 q1 q2) hA)
   clear q1 q2 q3
   go_wp2_with fail
   refine HC.out.mono ?_
   rintro e w2 ⟨rfl,hc2⟩
   have HC2:=jh (HCV.out.trans hc2)
   clear hc2
   obtain⟨b,hb⟩:∃ b,A.any (fun s=>!fineB A.length alts tokens s)=b:=⟨_,rfl⟩
   rw [hb] at HF ⊢
   clear hb
   go_wp2
   go_ret
   exact⟨by rw [HF.out];rfl,HC2.out⟩
end Go.Proofs.YtgnpmceimpjheaaGreat
namespace Go.Proofs.YtgnpmceimpjheaaGreat
open Go.RowKit
def stateB (ns:Nat) (i:Int):Bool:=decide (0≤i) && decide (i<ns)
def mostE (nst np:Nat) (k:Int):Int:=if k=2 then nst else if k=3 then np else 1
def edgeBad (ns nst np:Nat) (e:EdgeD):Bool:=decide (3<e.1) || decide (e.2.1<0) || (decide (e.1≠1) && decide (mostE nst np e.1≤e.2.1)) || !stateB ns e.2.2
def edgeFull (e:EdgeD):Bool:=!decide (e.1=0)
def stMay (ns nst np:Nat) (s:StD):Bool:=!s.2.1.any (edgeBad ns nst np) && (decide (s.2.2.length=0) || (decide (s.2.2.length=s.2.1.length) && decide (2≤s.2.2.length) && !s.2.1.any edgeFull && !s.2.2.any (fun i=>!stateB ns i)))
theorem stateF_any (i:Int) (p ns:Nat) (sa:Option Addr) (sc:Nat) (w:World) (hp:w.cell? ⟨p,0,none⟩=some (.slice sa ns sc)) :
  Calls Tryz.prog 87 #[.int .i64 i,.pointer (some ⟨p,0,none⟩)] w fun e w'=>e=.returned (.bool (stateB ns i))∧w'=w:=by
 by_cases h1:0≤i
 ·have d1:decide (0≤i)=true:=decide_eq_true h1
  have HF:Hid (stateB ns i=decide (i<ns)):=jh (by rw [stateB,d1,Bool.true_and])
  go_enter Tryz.func87,Tryz.ntmps87
  go_wp2
  go_ret
  exact⟨by rw [HF.out];rfl,rfl⟩
 ·have d1:decide (0≤i)=false:=decide_eq_false h1
  have HF:Hid (stateB ns i=false):=jh (by rw [stateB,d1,Bool.false_and])
  go_enter Tryz.func87,Tryz.ntmps87
  go_wp2
  go_ret
  exact⟨by rw [HF.out];rfl,rfl⟩
theorem stateS_any (i:Int) (p ns:Nat) (sa:Option Addr) (sc:Nat) (w:World) (hp:w.cell? ⟨p,0,none⟩=some (.slice sa ns sc)) :
  Calls Tryz.prog 133 #[.int .i64 i,.pointer (some ⟨p,0,none⟩)] w fun e w'=>e=.returned (.bool (stateB ns i))∧w'=w:=by
 by_cases h1:0≤i
 ·have d1:decide (0≤i)=true:=decide_eq_true h1
  have HF:Hid (stateB ns i=decide (i<ns)):=jh (by rw [stateB,d1,Bool.true_and])
  go_enter Tryz.func133,Tryz.ntmps133
  go_wp2
  go_ret
  exact⟨by rw [HF.out];rfl,rfl⟩
 ·have d1:decide (0≤i)=false:=decide_eq_false h1
  have HF:Hid (stateB ns i=false):=jh (by rw [stateB,d1,Bool.false_and])
  go_enter Tryz.func133,Tryz.ntmps133
  go_wp2
  go_ret
  exact⟨by rw [HF.out];rfl,rfl⟩
theorem gives_stateF (q p ns:Nat) (sa:Option Addr) (sc:Nat) (w:World) (hq:w.cell? ⟨q,0,none⟩=some (.func (.func 87) #[] #[.pointer (some ⟨p,0,none⟩)])) (hp:w.cell? ⟨p,0,none⟩=some (.slice sa ns sc)) :
  GivesI 88 #[.pointer (some ⟨q,0,none⟩)] (fun i=>!stateB ns i) w:=by
 intro x w' hx hc
 have hq':=hc.cellS hq (fun h=>h)
 have HS:=jh (stateF_any x p ns sa sc w' (hc.cellS hp (fun h=>h)))
 have eg:=enters_of Tryz.func87 (by kernel_rfl) rfl
 clear hq hp
 show Calls Tryz.prog 88 #[.int .i64 x,.pointer (some ⟨q,0,none⟩)] w' _
 obtain⟨b,hb⟩:∃ b,stateB ns x=b:=⟨_,rfl⟩
 rw [hb] at HS
 have HB:=jh hb
 clear hb
 go_enter Tryz.func88,Tryz.ntmps88
 go_wp2_with fail
 refine HS.out.mono ?_
 rintro e w2 ⟨rfl,rfl⟩
 go_wp2
 go_ret
 exact⟨by show Ending.returned (.bool (!b))=_;rw [← HB.out],Chg.refl _ _⟩
theorem gives_stateS (q p ns:Nat) (sa:Option Addr) (sc:Nat) (w:World) (hq:w.cell? ⟨q,0,none⟩=some (.func (.func 133) #[] #[.pointer (some ⟨p,0,none⟩)])) (hp:w.cell? ⟨p,0,none⟩=some (.slice sa ns sc)) :
  GivesI 136 #[.pointer (some ⟨q,0,none⟩)] (fun i=>!stateB ns i) w:=by
 intro x w' hx hc
 have hq':=hc.cellS hq (fun h=>h)
 have HS:=jh (stateS_any x p ns sa sc w' (hc.cellS hp (fun h=>h)))
 have eg:=enters_of Tryz.func133 (by kernel_rfl) rfl
 clear hq hp
 show Calls Tryz.prog 136 #[.int .i64 x,.pointer (some ⟨q,0,none⟩)] w' _
 obtain⟨b,hb⟩:∃ b,stateB ns x=b:=⟨_,rfl⟩
 rw [hb] at HS
 have HB:=jh hb
 clear hb
 go_enter Tryz.func136,Tryz.ntmps136
 go_wp2_with fail
 refine HS.out.mono ?_
 rintro e w2 ⟨rfl,rfl⟩
 go_wp2
 go_ret
 exact⟨by show Ending.returned (.bool (!b))=_;rw [← HB.out],Chg.refl _ _⟩
def predBad (ns:Nat) (i:Int):Bool:=decide (i<0) || decide ((ns:Int)-1≤i)
theorem gives_pred (p ns:Nat) (sa:Option Addr) (sc:Nat) (w:World) (hns:ns≤1000000000) (hp:w.cell? ⟨p,0,none⟩=some (.slice sa ns sc)):GivesI 91 #[.pointer (some ⟨p,0,none⟩)] (predBad ns) w:=by
 intro x w' hx hc
 have hp':=hc.cellS hp (fun h=>h)
 clear hp
 show Calls Tryz.prog 91 #[.int .i64 x,.pointer (some ⟨p,0,none⟩)] w' _
 by_cases h1:x<0
 ·have d1:decide (x<0)=true:=decide_eq_true h1
  have HF:Hid (predBad ns x=true):=jh (by rw [predBad,d1,Bool.true_or])
  go_enter Tryz.func91,Tryz.ntmps91
  go_wp2
  go_ret
  exact⟨by rw [HF.out];rfl,Chg.refl _ _⟩
 ·have d1:decide (x<0)=false:=decide_eq_false h1
  have HF:Hid (predBad ns x=decide ((ns:Int)-1≤x)):=jh (by rw [predBad,d1,Bool.false_or])
  go_enter Tryz.func91,Tryz.ntmps91
  go_wp2
  go_ret
  exact⟨by rw [HF.out];rfl,Chg.refl _ _⟩
theorem emptyEdge_any (e:EdgeD) (w:World) (h:U8 e.1):Calls Tryz.prog 134 #[edgeVal e] w fun r w'=>r=.returned (.bool (decide (e.1=0)))∧Chg (fun _=>False) w w':=by
 obtain⟨k,x,t⟩:=e
 show Calls Tryz.prog 134 #[.agg #[.int .u8 k,.int .i64 x,.int .i64 t]] w _
 simp only
 have HB:Hid ((k == 0)=decide (k=0)):=jh rfl
 clear h
 go_enter Tryz.func134,Tryz.ntmps134
 go_wp2
 go_ret
 exact⟨rfl,(Chg.refl _ w).alloc _⟩
theorem gives_full (q:Nat) (S:Nat→Prop) (w:World) (hq:w.cell? ⟨q,0,none⟩=some (.func (.func 134) #[] #[])):GivesE edgeE edgeVal eqR S 135 #[.pointer (some ⟨q,0,none⟩)] edgeFull w:=by
 intro y d w' hyd hok hc
 obtain rfl:y=d:=hyd
 have hq':=allocOld (.cells #[.int .u8 y.1,.int .i64 y.2.1,.int .i64 y.2.2] 71) (hc.cellS hq (fun h=>h))
 have eg:=enters_of Tryz.func134 (by kernel_rfl) rfl
 obtain⟨k,x,t⟩:=y
 have HE:=jh (emptyEdge_any (k,x,t) (w'.alloc (.cells #[.int .u8 k,.int .i64 x,.int .i64 t] 71)) hok.1)
 clear hq
 show Calls Tryz.prog 135 #[.agg #[.int .u8 k,.int .i64 x,.int .i64 t],.pointer (some ⟨q,0,none⟩)] w' _
 simp only at hq' HE
 obtain⟨b,hb⟩:∃ b,decide (k=0)=b:=⟨_,rfl⟩
 rw [hb] at HE
 have HF:Hid (edgeFull (k,x,t)=!b):=jh (by rw [edgeFull,hb])
 clear hb
 go_enter Tryz.func135,Tryz.ntmps135
 go_wp2_with fail
 refine HE.out.mono ?_
 rintro e w2 ⟨rfl,hc2⟩
 have HC:=jh (((Chg.refl _ w').alloc _).trans hc2)
 clear hc2
 go_wp2
 go_ret
 exact⟨by rw [HF.out];rfl,HC.out⟩
end Go.Proofs.YtgnpmceimpjheaaGreat
namespace Go.Proofs.YtgnpmceimpjheaaGreat
open Go.RowKit
theorem allocAt {w:World} {b j:Nat} {v:Value} {cs:Array Value} (e:TypeId) (h:b=w.heap.size) (hj:cs[j]?=some v):(w.alloc (.cells cs e)).cell? ⟨b,j,none⟩=some v:=by
 rw [h,World.cell?_alloc_new];exact hj
theorem stMay_any (d:StD) (aa ea:Option Addr) (ac ec ns nst np nd ns2 c0 c1 c2 c3 c4:Nat) (a0 a1 a2 a3 a4:Option Addr) (S:Nat→Prop) (w:World) (ha:edgeE.InS w S (aa,d.2.1.length,ac) d.2.1) (he:intE.InS w S (ea,d.2.2.length,ec) d.2.2) (hal:d.2.1.length≤1000000000) (hel:d.2.2.length≤1000000000) :
  Calls Tryz.prog 92 #[.agg #[.int .i64 d.1,.slice aa d.2.1.length ac,.slice ea d.2.2.length ec],.agg #[.slice a0 ns c0,.slice a1 nst c1,.slice a2 ns2 c2,.slice a3 np c3,.slice a4 nd c4]] w fun e w'=>e=.returned (.bool (stMay ns nst np d))∧Chg (fun _=>False) w w':=by
 obtain⟨dr,al,ed⟩:=d
 simp only at ha he hal hel ⊢
 have HA:=jh (ListR.of ha)
 have HE:=jh he
 clear ha he
 have hmf:∀ (fn:Fn) (first cap:Array Value) (w:World),(Instr.makeFunc fn first cap).run Tryz.prog w=.ok (.func fn first cap) w:=fun _ _ _ _=>rfl
 have eg:=enters_of Tryz.func133 (by kernel_rfl) rfl
 have eg3:=enters_of Tryz.func135 (by kernel_rfl) rfl
 have eg4:=enters_of Tryz.func136 (by kernel_rfl) rfl
 go_enter Tryz.func92,Tryz.ntmps92
 go_upto_region 2 with (fail)
 obtain⟨wv,hwv⟩:∃ W,W=((w.alloc (.cells #[.int .i64 dr,.slice aa al.length ac,.slice ea ed.length ec] 74)).alloc (.cells #[.slice a0 ns c0,.slice a1 nst c1,.slice a2 ns2 c2,.slice a3 np c3,.slice a4 nd c4] 31)).alloc (.cells #[.func (.func 133) #[] #[.pointer (some ⟨w.heap.size+1,0,none⟩)]] 174):=⟨_,rfl⟩
 have HCV:Hid (Chg (fun _=>False) w wv):=jh (by rw [hwv];exact (((Chg.refl _ w).alloc _).alloc _).alloc _)
 have HVS:Hid (wv.heap.size=w.heap.size+3):=jh (by rw [hwv];simp)
 have HQ:Hid ((wv.cell? ⟨w.heap.size,1,none⟩=some (.slice aa al.length ac)∧wv.cell? ⟨w.heap.size,2,none⟩=some (.slice ea ed.length ec))∧(wv.cell? ⟨w.heap.size+1,0,none⟩=some (.slice a0 ns c0)∧wv.cell? ⟨w.heap.size+1,1,none⟩=some (.slice a1 nst c1)∧wv.cell? ⟨w.heap.size+1,3,none⟩=some (.slice a3 np c3))∧wv.cell? ⟨w.heap.size+1+1,0,none⟩=some (.func (.func 133) #[] #[.pointer (some ⟨w.heap.size+1,0,none⟩)])):=jh (by
  rw [hwv]
  exact⟨⟨allocOld _ (allocOld _ (allocAt _ rfl rfl)),allocOld _ (allocOld _ (allocAt _ rfl rfl))⟩,⟨allocOld _ (allocAt _ (by simp) rfl),allocOld _ (allocAt _ (by simp) rfl),allocOld _ (allocAt _ (by simp) rfl)⟩,allocAt _ (by simp) rfl⟩)
 rw [← hwv]
 clear hwv
 have q1:=HQ.out.1.1
 go_wp2
 clear q1
 go_loopw [15] (fun q wr=>∃ k:Nat,k≤al.length∧q=.int .i64 k∧(∀ (j:Nat) e,j<k→al[j]?=some e→edgeBad ns nst np e=false)∧Chg (fun _=>False) wv wr) (fun q _=>al.length-(intOf q).toNat)
 case atStart=>exact⟨0,by omega,rfl,fun j e h=>absurd h (Nat.not_lt_zero _),Chg.refl _ _⟩
 case round =>
  obtain⟨k,hk,rfl,hb,hc⟩:=hrel
  have HB:=jh hb
  have HC:=jh hc
  have HCW:Hid (Chg (fun _=>False) w wr):=jh (HCV.out.trans hc)
  clear hb hc
  by_cases hkl:k<al.length
  ·have b9:decide ((k:Int)<(al.length:Int))=true:=by simp;omega
   obtain⟨x,d,g,o,hd,hx,rfl,-,-,hok,hcells⟩:=((ListR.good eqR.good).chg HA.out HCW.out (fun _ _ h=>h)).get3 (f:=encEdge) rfl hkl rfl
   obtain rfl:x=d:=hx
   obtain⟨e0,e1,e2⟩:=hcells _ _ _ rfl
   obtain⟨kd,wh,tgt⟩:=x
   obtain⟨hkd,hwh,htg⟩:=hok
   simp only at e0 e1 e2 hkd hwh htg
   have HD:=jh hd
   have HBAD:Hid (edgeBad ns nst np (kd,wh,tgt)=true→stMay ns nst np (dr,al,ed)=false):=jh (fun h=>by
    have:al.any (edgeBad ns nst np)=true:=List.any_eq_true.2 ⟨_,List.mem_of_getElem? HD.out,h⟩
    simp [stMay,this])
   have HNX:Hid (edgeBad ns nst np (kd,wh,tgt)=false→∀ (j:Nat) e,j<k+1→al[j]?=some e→edgeBad ns nst np e=false):=jh (fun h j e hj hje=>by
    by_cases hjk:j=k
    ·subst hjk
     rw [HD.out] at hje
     obtain rfl:=Option.some.inj hje
     exact h
    ·exact HB.out j e (by omega) hje)
   obtain⟨w2,hw2⟩:∃ W,W=wr.alloc (.cells #[.int .u8 kd,.int .i64 wh,.int .i64 tgt] 71):=⟨_,rfl⟩
   have HC2:Hid (Chg (fun _=>False) wr w2):=jh (by rw [hw2];exact (Chg.refl _ _).alloc _)
   have f0:w2.cell? ⟨wr.heap.size,0,none⟩=some (.int .u8 kd):=by rw [hw2];exact allocAt _ rfl rfl
   have f1:w2.cell? ⟨wr.heap.size,1,none⟩=some (.int .i64 wh):=by rw [hw2];exact allocAt _ rfl rfl
   have f2:w2.cell? ⟨wr.heap.size,2,none⟩=some (.int .i64 tgt):=by rw [hw2];exact allocAt _ rfl rfl
   have HCV2:Hid (Chg (fun _=>False) wv w2):=jh (HC.out.trans HC2.out)
   have HCW2:Hid (Chg (fun _=>False) w w2):=jh (HCW.out.trans HC2.out)
   have n1:=HCV2.out.cellS HQ.out.2.1.2.1 (fun h=>h)
   have n3:=HCV2.out.cellS HQ.out.2.1.2.2 (fun h=>h)
   have n5:=HCV2.out.cellS HQ.out.2.2 (fun h=>h)
   have HST:=jh (stateS_any tgt (w.heap.size+1) ns a0 c0 w2 (HCV2.out.cellS HQ.out.2.1.1 (fun h=>h)))
   clear hd hcells
   go_upto_region 5 with (fail)
   rw [← hw2]
   clear hw2 e0 e1 e2
   rcases kind_cases hkd with h5|h5|h5|h5|h5
   rotate_left 4
   ·have k0:(kd == 2)=false:=by rw [beq_eq_false_iff_ne];omega
    have k1:(kd == 3)=false:=by rw [beq_eq_false_iff_ne];omega
    have k2:decide (3<kd)=true:=decide_eq_true h5
    have HF:=jh (HBAD.out (by simp [edgeBad,h5]))
    clear HST
    go_wp2
    go_ret
    exact⟨by rw [HF.out];rfl,HCW2.out⟩
   ·subst h5
    by_cases hw0:wh<0
    ·have d1:decide (wh<0)=true:=decide_eq_true hw0
     have HF:=jh (HBAD.out (by simp [edgeBad,hw0]))
     clear HST
     go_wp2
     go_ret
     exact⟨by rw [HF.out];rfl,HCW2.out⟩
    ·have d1:decide (wh<0)=false:=decide_eq_false hw0
     by_cases hm:1≤wh
     ·have d2:decide (1≤wh)=true:=decide_eq_true hm
      have HF:=jh (HBAD.out (by simp [edgeBad,mostE,hm]))
      clear HST
      go_wp2
      go_ret
      exact⟨by rw [HF.out];rfl,HCW2.out⟩
     ·have d2:decide (1≤wh)=false:=decide_eq_false hm
      cases hst:stateB ns tgt with
      | false =>
       have HF:=jh (HBAD.out (by simp [edgeBad,hst]))
       rw [hst] at HST
       clear hst
       go_wp2_with fail
       refine HST.out.mono ?_
       rintro e w3 ⟨rfl,rfl⟩
       go_wp2
       go_ret
       exact⟨by rw [HF.out];rfl,HCW2.out⟩
      | true =>
       have HN:=jh (HNX.out (by simp [edgeBad,mostE,hw0,hm,hst]))
       rw [hst] at HST
       clear hst
       go_wp2_with fail
       refine HST.out.mono ?_
       rintro e w3 ⟨rfl,rfl⟩
       go_wp2
       go_roundw
       case rel=>exact⟨k+1,by omega,by go_num,HN.out,HCV2.out⟩
       case measure=>simp [intOf];omega
   ·subst h5
    by_cases hw0:wh<0
    ·have d1:decide (wh<0)=true:=decide_eq_true hw0
     have HF:=jh (HBAD.out (by simp [edgeBad,hw0]))
     clear HST
     go_wp2
     go_ret
     exact⟨by rw [HF.out];rfl,HCW2.out⟩
    ·have d1:decide (wh<0)=false:=decide_eq_false hw0
     cases hst:stateB ns tgt with
     | false =>
      have HF:=jh (HBAD.out (by simp [edgeBad,hst]))
      rw [hst] at HST
      clear hst
      go_wp2_with fail
      refine HST.out.mono ?_
      rintro e w3 ⟨rfl,rfl⟩
      go_wp2
      go_ret
      exact⟨by rw [HF.out];rfl,HCW2.out⟩
     | true =>
      have HN:=jh (HNX.out (by simp [edgeBad,hw0,hst]))
      rw [hst] at HST
      clear hst
      go_wp2_with fail
      refine HST.out.mono ?_
      rintro e w3 ⟨rfl,rfl⟩
      go_wp2
      go_roundw
      case rel=>exact⟨k+1,by omega,by go_num,HN.out,HCV2.out⟩
      case measure=>simp [intOf];omega
   ·subst h5
    by_cases hw0:wh<0
    ·have d1:decide (wh<0)=true:=decide_eq_true hw0
     have HF:=jh (HBAD.out (by simp [edgeBad,hw0]))
     clear HST
     go_wp2
     go_ret
     exact⟨by rw [HF.out];rfl,HCW2.out⟩
    ·have d1:decide (wh<0)=false:=decide_eq_false hw0
     by_cases hm:(nst:Int)≤wh
     ·have d2:decide ((nst:Int)≤wh)=true:=decide_eq_true hm
      have HF:=jh (HBAD.out (by simp [edgeBad,mostE,hm]))
      clear HST
      go_wp2
      go_ret
      exact⟨by rw [HF.out];rfl,HCW2.out⟩
     ·have d2:decide ((nst:Int)≤wh)=false:=decide_eq_false hm
      cases hst:stateB ns tgt with
      | false =>
       have HF:=jh (HBAD.out (by simp [edgeBad,hst]))
       rw [hst] at HST
       clear hst
       go_wp2_with fail
       refine HST.out.mono ?_
       rintro e w3 ⟨rfl,rfl⟩
       go_wp2
       go_ret
       exact⟨by rw [HF.out];rfl,HCW2.out⟩
      | true =>
       have HN:=jh (HNX.out (by simp [edgeBad,mostE,hw0,hm,hst]))
       rw [hst] at HST
       clear hst
       go_wp2_with fail
       refine HST.out.mono ?_
       rintro e w3 ⟨rfl,rfl⟩
       go_wp2
       go_roundw
       case rel=>exact⟨k+1,by omega,by go_num,HN.out,HCV2.out⟩
       case measure=>simp [intOf];omega
   ·subst h5
    by_cases hw0:wh<0
    ·have d1:decide (wh<0)=true:=decide_eq_true hw0
     have HF:=jh (HBAD.out (by simp [edgeBad,hw0]))
     clear HST
     go_wp2
     go_ret
     exact⟨by rw [HF.out];rfl,HCW2.out⟩
    ·have d1:decide (wh<0)=false:=decide_eq_false hw0
     by_cases hm:(np:Int)≤wh
     ·have d2:decide ((np:Int)≤wh)=true:=decide_eq_true hm
      have HF:=jh (HBAD.out (by simp [edgeBad,mostE,hm]))
      clear HST
      go_wp2
      go_ret
      exact⟨by rw [HF.out];rfl,HCW2.out⟩
     ·have d2:decide ((np:Int)≤wh)=false:=decide_eq_false hm
      cases hst:stateB ns tgt with
      | false =>
       have HF:=jh (HBAD.out (by simp [edgeBad,hst]))
       rw [hst] at HST
       clear hst
       go_wp2_with fail
       refine HST.out.mono ?_
       rintro e w3 ⟨rfl,rfl⟩
       go_wp2
       go_ret
       exact⟨by rw [HF.out];rfl,HCW2.out⟩
      | true =>
       have HN:=jh (HNX.out (by simp [edgeBad,mostE,hw0,hm,hst]))
       rw [hst] at HST
       clear hst
       go_wp2_with fail
       refine HST.out.mono ?_
       rintro e w3 ⟨rfl,rfl⟩
       go_wp2
       go_roundw
       case rel=>exact⟨k+1,by omega,by go_num,HN.out,HCV2.out⟩
       case measure=>simp [intOf];omega
  ·obtain rfl:k=al.length:=by omega
   have b9:decide ((al.length:Int)<(al.length:Int))=false:=by simp
   have HANY:Hid (al.any (edgeBad ns nst np)=false):=jh (by
    rw [List.any_eq_false]
    intro e he
    obtain⟨j,hj⟩:=List.getElem?_of_mem he
    rw [HB.out j e (List.getElem?_eq_some_iff.1 hj).1 hj]
    exact Bool.false_ne_true)
   have HSM:Hid (stMay ns nst np (dr,al,ed)=(decide (ed.length=0) || (decide (ed.length=al.length) && decide (2≤ed.length) && !al.any edgeFull && !ed.any (fun i=>!stateB ns i)))):=jh (by simp only [stMay,HANY.out,Bool.not_false,Bool.true_and])
   have q1:=HC.out.cellS HQ.out.1.1 (fun h=>h)
   have q2:=HC.out.cellS HQ.out.1.2 (fun h=>h)
   have q3:=HC.out.cellS HQ.out.2.2 (fun h=>h)
   go_upto_region 15 with (fail)
   obtain⟨w9,hw9⟩:∃ W,W=wr.alloc (.cells #[.func (.func 134) #[] #[]] 112):=⟨_,rfl⟩
   have HC9:Hid (Chg (fun _=>False) wr w9):=jh (by rw [hw9];exact (Chg.refl _ _).alloc _)
   have HQ9:Hid (w9.cell? ⟨wr.heap.size,0,none⟩=some (.func (.func 134) #[] #[])):=jh (by rw [hw9];exact allocNew _ _ rfl)
   have HCW9:Hid (Chg (fun _=>False) w w9):=jh (HCW.out.trans HC9.out)
   rw [← hw9]
   clear hw9 q1 q2 q3
   have q1:=HC9.out.cellS (HC.out.cellS HQ.out.1.1 (fun h=>h)) (fun h=>h)
   have q2:=HC9.out.cellS (HC.out.cellS HQ.out.1.2 (fun h=>h)) (fun h=>h)
   by_cases p0:ed.length=al.length
   ·have b1:((ed.length:Int) == (al.length:Int))=true:=by rw [beq_iff_eq];omega
    have b1':(ed.length == al.length)=true:=by rw [beq_iff_eq];omega
    have P0:=jh p0
    clear p0
    by_cases p2:2≤ed.length
    ·have b2:decide (2≤ed.length)=true:=decide_eq_true p2
     have b2':decide ((2:Int)≤(ed.length:Int))=true:=decide_eq_true (by omega)
     have HCE:=jh (containsidxEdge eqR.good 135 _ _ al aa ac w9 eg3 ((ListR.good eqR.good).chg HA.out HCW9.out (fun _ _ h=>h)) (gives_full wr.heap.size S w9 HQ9.out) hal)
     have b3:((ed.length:Int) == 0)=false:=by rw [beq_eq_false_iff_ne];omega
     have b3':(ed.length == 0)=false:=by rw [beq_eq_false_iff_ne];omega
     have HSM2:Hid (stMay ns nst np (dr,al,ed)=(!al.any edgeFull && !ed.any (fun i=>!stateB ns i))):=jh (by rw [HSM.out,decide_eq_false (show ¬ ed.length=0 by omega),decide_eq_true P0.out,decide_eq_true p2,Bool.false_or,Bool.true_and,Bool.true_and])
     cases hfl:al.any edgeFull with
     | true =>
      rw [hfl] at HCE HSM2
      have HF:Hid (stMay ns nst np (dr,al,ed)=false):=jh (by rw [HSM2.out];rfl)
      clear hfl
      go_wp2_with fail
      refine HCE.out.mono ?_
      rintro e wa ⟨rfl,hca⟩
      have HCA:=jh (HCW9.out.trans hca)
      have q2:=hca.cellS q2 (fun h=>h)
      clear hca
      go_wp2
      go_ret
      exact⟨by rw [HF.out];rfl,HCA.out⟩
     | false =>
      rw [hfl] at HCE HSM2
      clear hfl
      go_wp2_with fail
      refine HCE.out.mono ?_
      rintro e wa ⟨rfl,hca⟩
      have HCA:=jh (HCW9.out.trans hca)
      have hva:Chg (fun _=>False) wv wa:=HC.out.trans (HC9.out.trans hca)
      have q2:=hca.cellS q2 (fun h=>h)
      have HCI:=jh (containsI_any _ #[.pointer (some ⟨w.heap.size+1+1,0,none⟩)] (fun i=>!stateB ns i) ed ea ec 0 wa eg4 ((HE.out.chg HCA.out (fun _ _ h=>h)).in' (fun _ _=>Nat.zero_le _)) (gives_stateS (w.heap.size+1+1) (w.heap.size+1) ns a0 c0 wa (hva.cellS HQ.out.2.2 (fun h=>h)) (hva.cellS HQ.out.2.1.1 (fun h=>h))) hel)
      obtain⟨b,hb⟩:∃ b,ed.any (fun i=>!stateB ns i)=b:=⟨_,rfl⟩
      rw [hb] at HCI HSM2
      clear hca hva hb
      go_wp2_with fail
      refine HCI.out.mono ?_
      rintro e wc ⟨rfl,hcc⟩
      have HCC:=jh (HCA.out.trans hcc)
      clear hcc
      go_wp2
      go_ret
      exact⟨by rw [HSM2.out];rfl,HCC.out⟩
    ·have b2:decide (2≤ed.length)=false:=decide_eq_false p2
     have b2':decide ((2:Int)≤(ed.length:Int))=false:=decide_eq_false (by omega)
     have P2:=jh p2
     clear p2
     by_cases z0:ed.length=0
     ·have b3:((ed.length:Int) == 0)=true:=by rw [beq_iff_eq];omega
      have b3':(ed.length == 0)=true:=by rw [beq_iff_eq];omega
      have HF:Hid (stMay ns nst np (dr,al,ed)=true):=jh (by rw [HSM.out,decide_eq_true z0,Bool.true_or])
      clear z0
      go_wp2
      go_ret
      exact⟨by rw [HF.out];rfl,HCW9.out⟩
     ·have b3:((ed.length:Int) == 0)=false:=by rw [beq_eq_false_iff_ne];omega
      have b3':(ed.length == 0)=false:=by rw [beq_eq_false_iff_ne];omega
      have HF:Hid (stMay ns nst np (dr,al,ed)=false):=jh (by rw [HSM.out,decide_eq_false z0,Bool.false_or];rw [decide_eq_false P2.out];simp)
      clear z0
      go_wp2
      go_ret
      exact⟨by rw [HF.out];rfl,HCW9.out⟩
   ·have b1:((ed.length:Int) == (al.length:Int))=false:=by rw [beq_eq_false_iff_ne];omega
    have b1':(ed.length == al.length)=false:=by rw [beq_eq_false_iff_ne];omega
    have P0:=jh p0
    clear p0
    by_cases z0:ed.length=0
    ·have b3:((ed.length:Int) == 0)=true:=by rw [beq_iff_eq];omega
     have b3':(ed.length == 0)=true:=by rw [beq_iff_eq];omega
     have HF:Hid (stMay ns nst np (dr,al,ed)=true):=jh (by rw [HSM.out,decide_eq_true z0,Bool.true_or])
     clear z0
     go_wp2
     go_ret
     exact⟨by rw [HF.out];rfl,HCW9.out⟩
    ·have b3:((ed.length:Int) == 0)=false:=by rw [beq_eq_false_iff_ne];omega
     have b3':(ed.length == 0)=false:=by rw [beq_eq_false_iff_ne];omega
     have HF:Hid (stMay ns nst np (dr,al,ed)=false):=jh (by rw [HSM.out,decide_eq_false z0,Bool.false_or];rw [decide_eq_false P0.out];simp)
     clear z0
     go_wp2
     go_ret
     exact⟨by rw [HF.out];rfl,HCW9.out⟩
end Go.Proofs.YtgnpmceimpjheaaGreat
namespace Go.Proofs.YtgnpmceimpjheaaGreat.I
open Go.RowKit
theorem zeros8 {w:World} (base:Option Addr) (C0:List Int) (hold:∀ w':World,Chg (fun _=>False) w w'→(Builtin.firstCells 1 C0.length (.slice base C0.length C0.length)).run Tryz.prog w'=.ok (bytesV C0).toArray w')
  (hX:∀ a∈C0,Byte a) (k:Nat) (h0:0<k) (hlen:C0.length+k≤1000000000000) (ty:TypeId) :
  ∃ (w':World) (C:List Int),(Builtin.append_ #[25,3] ty #[.slice base C0.length C0.length,.int .i64 k]).run Tryz.prog w=.ok (.slice (some ⟨w.heap.size,0,none⟩) (C0.length+k) C.length) w'∧Row w' w.heap.size C∧C0 <+: C∧C0.length+k≤C.length∧C.length≤maxLen∧Chg (fun _=>False) w w':=by
 obtain⟨i,hi,hz,h1,h2⟩:=info_parts info8
 have hG:=grownCap_ge w (C0.length+k) C0.length 3
 have hG2:=grownCap_le_maxLen w (C0.length+k) C0.length 3 (by unfold maxLen;omega)
 have hrun:=Lib.run_append_grow_zeros (P:=Tryz.prog) w 25 3 ty 3 i (.int .i64 0) .i64 .i64 Tryz.underlying25 Tryz.underlying3 hi hz base C0.length C0.length (bytesV C0) (by rw [h1];exact hold _ (Chg.refl _ _).drew) k h0 (by omega) (by omega) (by omega) (by rw [h2];omega)
  (by rw [h2];exact growslice_fits (by omega) (by omega))
 have e3:∀ a b c:List Int,(bytesV a).toArray++(bytesV b).toArray++(bytesV c).toArray=(bytesV (a++b++c)).toArray:=fun a b c=>by simp [bytesV]
 rw [zeroCells8,zeroCells8,e3] at hrun
 obtain⟨C,hC⟩:∃ C,C=C0++List.replicate k 0++List.replicate (grownCap w (C0.length+k) C0.length 3-(C0.length+k)) 0:=⟨_,rfl⟩
 rw [← hC] at hrun
 have hl:C.length=grownCap w (C0.length+k) C0.length 3:=by rw [hC];simp only [List.length_append,List.length_replicate];omega
 rw [← hl] at hrun
 refine⟨w.drew.alloc (.cells (bytesV C).toArray 3),C,hrun,Row.alloc w.drew _ _ (fun a ha=>?_),by rw [hC,List.append_assoc];exact List.prefix_append _ _,by omega,by omega,(Chg.refl _ _).drew.alloc _⟩
 rw [hC] at ha
 simp only [List.mem_append,List.mem_replicate] at ha
 rcases ha with (ha|⟨_,rfl⟩)|⟨_,rfl⟩
 ·exact hX a ha
 ·exact⟨by omega,by omega⟩
 ·exact⟨by omega,by omega⟩
theorem grow_k (w:World) (k:Nat) (hk:0<k) (hl:k≤1000000000) :
  Calls Tryz.prog 132 #[.slice none 0 0,.int .i64 k] w fun e w'=>∃ v,e=.returned v∧Own w' w.heap.size v []∧Chg (fun _=>False) w w':=by
 obtain⟨w1,C1,hrun,hR1,hp1,hl1,hm1,hc1⟩:=zeros8 (w:=w) none [] (fun w' _=>run_firstCells_none w' 1 0 0 0) (fun _ h=>by cases h) k hk (by simp;omega) 0
 simp only [List.length_nil,Nat.zero_add] at hl1 hrun
 have HRUN:Hid ((Builtin.append_ #[25,3] 0 #[.slice none 0 0,.int .i64 k]).run Tryz.prog w=.ok (.slice (some ⟨w.heap.size,0,none⟩) k C1.length) w1):=jh hrun
 have HO:Hid (Own w1 w.heap.size (.slice (some ⟨w.heap.size,0,none⟩) 0 C1.length) []):=jh (.inr ⟨_,C1,rfl,Nat.le_refl _,hR1,hp1,hm1⟩)
 have HC:=jh hc1
 unfold maxLen at hm1
 clear hrun hR1 hp1 hc1
 go_enter Tryz.func132,Tryz.ntmps132
 go_wp2_with (at_builtin;refine Lib.wpList_append_run _ rfl _ _ _ _ rfl _ _ rfl rfl _ _ HRUN.out ?_)
 go_ret
 exact⟨_,rfl,HO.out,HC.out⟩
theorem grow_0 (w:World):Calls Tryz.prog 132 #[.slice none 0 0,.int .i64 0] w fun e w'=>∃ v,e=.returned v∧Own w' w.heap.size v []∧Chg (fun _=>False) w w':=by
 go_enter Tryz.func132,Tryz.ntmps132
 go_wp2
 go_ret
 exact⟨_,rfl,.inl ⟨rfl,rfl⟩,Chg.refl _ _⟩
theorem grow_any (w:World) (k:Nat) (hl:k≤1000000000):Calls Tryz.prog 132 #[.slice none 0 0,.int .i64 k] w fun e w'=>∃ v,e=.returned v∧Own w' w.heap.size v []∧Chg (fun _=>False) w w':=by
 rcases Nat.eq_zero_or_pos k with rfl|h
 ·exact grow_0 w
 ·exact grow_k w k h hl
theorem concat_gen (X Y:List Int) (ax ay:Option Addr) (gx ox cx gy oy cy q:Nat) (w:World) (hx:BytesAt w gx ox X) (hax:0<X.length→ax=some ⟨gx,ox,none⟩) (hyr:BytesAt w gy oy Y) (hay:0<Y.length→ay=some ⟨gy,oy,none⟩) (hxl:X.length≤100000000) (hyl2:Y.length≤100000000)
  (q0:w.cell? ⟨q,0,none⟩=some (.slice ax X.length cx)) (q1:w.cell? ⟨q,1,none⟩=some (.slice ay Y.length cy)) :
  Calls Tryz.prog 90 #[.slice (some ⟨q,0,none⟩) 2 2] w fun e w'=>∃ v,e=.returned v∧Own w' w.heap.size v (X++Y)∧Chg (fun _=>False) w w':=by
 have HX:=jh hx
 have HAX:=jh hax
 have HY:=jh hyr
 have HAY:=jh hay
 have HQ:Hid (∀ w',Chg (fun _=>False) w w'→w'.cell? ⟨q,0,none⟩=some (.slice ax X.length cx)∧w'.cell? ⟨q,1,none⟩=some (.slice ay Y.length cy)):=jh fun w' hc=>⟨hc.cellS q0 (fun h=>h),hc.cellS q1 (fun h=>h)⟩
 have HXB:=jh hx.byte
 have HYB:=jh hyr.byte
 clear hx hax hyr hay
 go_enter Tryz.func90,Tryz.ntmps90
 go_wp2_with fail
 go_loopw [3,11] (fun n i wr=>((i=.int .i64 0∧n=.int .i64 0)∨(i=.int .i64 1∧n=.int .i64 X.length)∨(i=.int .i64 2∧n=.int .i64 ((X.length:Int)+Y.length)))∧wr=w) (fun _ i _=>2-(intOf i).toNat)
 case atStart=>exact⟨.inl ⟨rfl,rfl⟩,rfl⟩
 case round =>
  obtain⟨h,rfl⟩:=hrel
  rcases h with ⟨rfl,rfl⟩|⟨rfl,rfl⟩|⟨rfl,rfl⟩
  ·go_wp2_with fail
   go_roundw
   case rel=>first|exact⟨.inr (.inl ⟨rfl,rfl⟩),rfl⟩|simp
   case measure=>simp [intOf]
  ·go_wp2_with fail
   go_roundw
   case rel=>first|exact⟨.inr (.inr ⟨rfl,rfl⟩),rfl⟩|simp
   case measure=>simp [intOf]
  ·clear q0 q1
   go_wp2_with fail
   have hsum:(X.length:Int)+Y.length=((X.length+Y.length:Nat):Int):=by omega
   rw [hsum]
   refine (grow_any wr (X.length+Y.length) (by omega)).mono ?_
   rintro e w1 ⟨v1,rfl,h1,hc1⟩
   have H1:=jh h1
   have HC1:=jh hc1
   clear h1 hc1 hsum
   go_wp2_with fail
   obtain⟨wo,rfl⟩:∃ wo:World,wo=wr:=⟨_,rfl⟩
   go_loopw [6,27] (fun v i wr=>((i=.int .i64 0∧Own wr wo.heap.size v [])∨(i=.int .i64 1∧Own wr wo.heap.size v ([]++X))∨(i=.int .i64 2∧Own wr wo.heap.size v ([]++X++Y)))∧Chg (fun k=>wo.heap.size≤k) wo wr) (fun _ i _=>2-(intOf i).toNat)
   case atStart=>exact⟨.inl ⟨rfl,H1.out⟩,HC1.out.any⟩
   case round =>
    clear H1 HC1
    obtain⟨h,hc⟩:=hrel
    have HC:=jh hc
    obtain⟨q0,q1⟩:=HQ.out wr hc.fresh
    clear hc
    rcases h with ⟨rfl,ho⟩|⟨rfl,ho⟩|⟨rfl,ho⟩
    ·have HO:=jh ho
     clear ho
     go_wp2_with (at_builtin;refine wpList_append8 rfl _ _ 25 rfl wo.heap.size _ [] X (.slice ax X.length cx) rfl rfl HO.out HC.out.size (srcBytes (HX.out.chg HC.out.fresh (fun _ h=>h)) HAX.out) HXB.out (by simp;omega) ?_;intro v3 w3 K1 K2 K3)
     go_roundw
     case rel=>exact⟨.inr (.inl ⟨rfl,K1.out⟩),HC.out.trans K2.out⟩
     case measure=>simp [intOf]
    ·have HO:=jh ho
     clear ho
     go_wp2_with (at_builtin;refine wpList_append8 rfl _ _ 25 rfl wo.heap.size _ ([]++X) Y (.slice ay Y.length cy) rfl rfl HO.out HC.out.size (srcBytes (HY.out.chg HC.out.fresh (fun _ h=>h)) HAY.out) HYB.out (by simp;omega) ?_;intro v3 w3 K1 K2 K3)
     go_roundw
     case rel=>exact⟨.inr (.inr ⟨rfl,K1.out⟩),HC.out.trans K2.out⟩
     case measure=>simp [intOf]
    ·have HO:=jh ho
     clear ho q0 q1
     go_wp2_with fail
     go_ret
     exact⟨_,rfl,HO.out,HC.out.fresh⟩
end Go.Proofs.YtgnpmceimpjheaaGreat.I
namespace Go.Proofs.YtgnpmceimpjheaaGreat
open Go.RowKit
theorem equalInt_any (X Y:List Int) (ax ay:Option Addr) (cx cy Bx By:Nat) (w:World) (hx:intE.In w Bx (ax,X.length,cx) X) (hy:intE.In w By (ay,Y.length,cy) Y) (hl:X.length≤1000000000) :
  Calls Tryz.prog 93 #[.slice ax X.length cx,.slice ay Y.length cy] w fun e w'=>e=.returned (.bool (decide (X=Y)))∧Chg (fun _=>False) w w':=by
 have HX:=jh hx
 have HY:=jh hy
 clear hx hy
 by_cases hxy:X.length=Y.length
 ·have b10:((X.length:Int) != (Y.length:Int))=false:=by simp [hxy]
  have HXY:=jh hxy
  clear hxy
  go_enter Tryz.func93,Tryz.ntmps93
  go_wp2
  go_loopw [13] (fun i wr=>∃ k:Nat,k≤X.length∧i=.int .i64 k∧Chg (fun _=>False) w wr∧X.take k=Y.take k) (fun i _=>X.length-(intOf i).toNat)
  case atStart=>exact⟨0,by omega,rfl,Chg.refl _ _,by simp⟩
  case round =>
   obtain⟨k,hk,rfl,hc,he⟩:=hrel
   have HC:=jh hc
   have HE:=jh he
   clear hc he
   by_cases hkl:k<X.length
   ·have b14:decide ((k:Int)<(X.length:Int))=true:=by simp;omega
    have hkl2:k<Y.length:=by have:=HXY.out;omega
    obtain⟨x,g,o,hx,rfl,c0,-,-,-,-⟩:=(HX.out.same HC.out).getI hkl
    obtain⟨y,g2,o2,hy,rfl,c1,-,-,-,-⟩:=(HY.out.same HC.out).getI hkl2
    have HP:=jh hx
    have HQ:=jh hy
    have HCC:=jh (show _∧_ from ⟨c0,c1⟩)
    clear hx hy c0 c1
    go_upto_region 6 with (fail)
    refine wp_region_same (fun w'=>Chg (fun _=>False) wr w') (by kernel_rfl) (by kernel_rfl) ?_ ?_
    ·exact (Chg.refl _ _).drew
    (refine rdC fun K hK=>?_;apply ei;intro _ w' _ hC;(go_simp;try with_reducible rfl);(try go_simp);refine hK _ ?_;clear hK K);(refine rdC fun K hK=>?_;apply ei;intro _ w' _ hC;(go_simp;try with_reducible rfl);(try go_simp);refine hK _ ?_;clear hK K);(refine rdC fun K hK=>?_;apply ei;intro _ w' _ hC;(go_simp;try with_reducible rfl);(try go_simp);refine hK _ ?_;clear hK K);(refine rdC fun K hK=>?_;apply ei;intro _ w' _ hC;((have c0:=hC.cellS HCC.out.1 (fun h=>h);have c1:=hC.cellS HCC.out.2 (fun h=>h));go_simp;try with_reducible rfl);(try go_simp);refine hK _ ?_;clear hK K);(refine rdC fun K hK=>?_;apply ei;intro _ w' _ hC;(go_simp;try with_reducible rfl);(try go_simp);refine hK _ ?_;clear hK K);(refine rdC fun K hK=>?_;apply ei;intro _ w' _ hC;(go_simp;try with_reducible rfl);(try go_simp);refine hK _ ?_;clear hK K);(refine rdC fun K hK=>?_;apply ei;intro _ w' _ hC;(go_simp;try with_reducible rfl);(try go_simp);refine hK _ ?_;clear hK K);(refine rdC fun K hK=>?_;apply ei;intro _ w' _ hC;((have c0:=hC.cellS HCC.out.1 (fun h=>h);have c1:=hC.cellS HCC.out.2 (fun h=>h));go_simp;try with_reducible rfl);(try go_simp);refine hK _ ?_;clear hK K);(refine rdC fun K hK=>?_;apply ei;intro _ w' _ hC;(go_simp;try with_reducible rfl);(try go_simp);refine hK _ ?_;clear hK K)
    refine wpC_nil ?_
    intro w2 hC2
    have HC2:=jh (HC.out.trans hC2)
    clear hC2 HCC
    by_cases hpq:x=y
    ·have d1:(x != y)=false:=by simp [hpq]
     have HT:Hid (X.take (k+1)=Y.take (k+1)):=jh (by rw [List.take_add_one,List.take_add_one,HE.out,HP.out,HQ.out,hpq])
     clear HE HP HQ hpq
     go_wp2
     go_roundw
     case rel=>exact⟨k+1,by omega,by go_num,HC2.out,HT.out⟩
     case measure=>simp [intOf];omega
    ·have d1:(x != y)=true:=by simp [hpq]
     have HD:Hid (decide (X=Y)=false):=jh (by
      apply decide_eq_false
      intro h
      have h1:=HP.out
      rw [h,HQ.out] at h1
      exact hpq (Option.some.inj h1).symm)
     clear HE HP HQ hpq
     go_wp2
     go_ret
     exact⟨by rw [HD.out];rfl,HC2.out⟩
   ·obtain rfl:k=X.length:=by omega
    have b14:decide ((X.length:Int)<(X.length:Int))=false:=by simp
    have HD:Hid (decide (X=Y)=true):=jh (by
     have:=HE.out
     rw [List.take_length,HXY.out,List.take_length] at this
     simp [this])
    clear HE
    go_wp2
    go_ret
    exact⟨by rw [HD.out];rfl,HC.out⟩
 ·have b10:((X.length:Int) != (Y.length:Int))=true:=by simp;omega
  have HD:Hid (decide (X=Y)=false):=jh (by
   apply decide_eq_false
   intro h
   exact hxy (by rw [h]))
  go_enter Tryz.func93,Tryz.ntmps93
  go_wp2
  go_ret
  exact⟨by rw [HD.out];rfl,Chg.refl _ _⟩
end Go.Proofs.YtgnpmceimpjheaaGreat
namespace Go.Proofs.YtgnpmceimpjheaaGreat
open Go.RowKit
def stOk (ns nst np:Nat) (s:StD):Bool:=stMay ns nst np s && decide (0≤s.1) && decide (s.1<nst)
def mayNet (n:NetD):Bool:=decide (n.s.length=n.p.length) && !(n.s++n.p).any (fun i=>!stateB n.st.length i) && !n.q.any (predBad n.st.length) && n.st.all (stOk n.st.length n.s.length n.q.length) && decide (decsOf n.st=n.d)
def stB (d:StD):Prop:=d.2.1.length≤1000000000∧d.2.2.length≤1000000000
structure FairN (n:NetD):Prop where
 st:n.st.length≤1000000000
 s:n.s.length≤100000000
 p:n.p.length≤100000000
 q:n.q.length≤1000000000
 d:n.d.length≤1000000000
 e:∀ s∈n.st,stB s
theorem Elt.InS.bytes {w:World} {S:Nat→Prop} {a:Option Addr} {n c:Nat} {L:List Int} (h:intE.InS w S (a,n,c) L):∃ g o,I.BytesAt w g o L∧(0<L.length→a=some ⟨g,o,none⟩):=by
 obtain⟨-,-,g,o,h3,h4⟩:=h
 exact⟨g,o,intAt.1 h3,fun hp=>(h4 hp).1⟩
theorem intOwnI {w:World} {B:Nat} {v:Value} {X:List Int} (h:I.Own w B v X):intE.Own w B v X:=by
 rcases h with h|⟨g,C,h1,h2,h3,h4⟩
 ·exact .inl h
 ·exact .inr ⟨g,C,h1,h2,intRow.2 h3,h4⟩
theorem Elt.Own.inC {β:Type} {E:Elt β} {w:World} {B:Nat} {a:Option Addr} {n c:Nat} {X:List β} (h:E.Own w B (.slice a n c) X):E.In w B (a,n,c) X:=by
 obtain⟨a',g,c2,h1,h2,h3,h4⟩:=h.at'
 injection h1 with e1 e2 e3
 subst e1 e2 e3
 exact⟨rfl,h2,g,0,h3,h4⟩
theorem all_take {α:Type} {p:α→Bool} {L:List α} (h:∀ (j:Nat) x,L[j]?=some x→p x=true):L.all p=true:=by
 rw [List.all_eq_true]
 intro x hx
 obtain⟨j,hj⟩:=List.getElem?_of_mem hx
 exact h j x hj
theorem netMay_any (n:NetD) (m:NetS) (S:Nat→Prop) (w:World) (h:NetIn w S m n) (hf:FairN n) :
  Calls Tryz.prog 38 #[netV m] w fun e w'=>e=.returned (.bool (mayNet n))∧Chg (fun _=>False) w w':=by
 obtain⟨⟨a0,n0,c0⟩,⟨a1,n1,c1⟩,⟨a2,n2,c2⟩,⟨a3,n3,c3⟩,⟨a4,n4,c4⟩⟩:=m
 obtain⟨h0,h1,h2,h3,h4⟩:=h
 obtain⟨rfl,-⟩:=h0.len
 obtain⟨rfl,-⟩:=h1.len
 obtain⟨rfl,-⟩:=h2.len
 obtain⟨rfl,-⟩:=h3.len
 obtain⟨rfl,-⟩:=h4.len
 obtain⟨f0,f1,f2,f3,f4,f5⟩:=hf
 have H0:=jh (ListR.bnd h0 f5)
 have H1:=jh h1
 have H2:=jh h2
 have H3:=jh h3
 have H4:=jh h4
 clear h0 h1 h2 h3 h4 f5
 have hmf:∀ (fn:Fn) (first cap:Array Value) (w:World),(Instr.makeFunc fn first cap).run Tryz.prog w=.ok (.func fn first cap) w:=fun _ _ _ _=>rfl
 have eg1:=enters_of Tryz.func88 (by kernel_rfl) rfl
 have eg2:=enters_of Tryz.func91 (by kernel_rfl) rfl
 obtain⟨st,ss,ps,qs,ds⟩:=n
 simp only at f0 f1 f2 f3 f4 H0 H1 H2 H3 H4 ⊢
 show Calls Tryz.prog 38 #[.agg #[.slice a0 st.length c0,.slice a1 ss.length c1,.slice a2 ps.length c2,.slice a3 qs.length c3,.slice a4 ds.length c4]] w _
 go_enter Tryz.func38,Tryz.ntmps38
 go_upto_region 3 with (fail)
 obtain⟨wv,hwv⟩:∃ W,W=(w.alloc (.cells #[.slice a0 st.length c0,.slice a1 ss.length c1,.slice a2 ps.length c2,.slice a3 qs.length c3,.slice a4 ds.length c4] 31)).alloc (.cells #[.func (.func 87) #[] #[.pointer (some ⟨w.heap.size,0,none⟩)]] 174):=⟨_,rfl⟩
 have HCV:Hid (Chg (fun _=>False) w wv):=jh (by rw [hwv];exact ((Chg.refl _ w).alloc _).alloc _)
 have HQ:Hid ((wv.cell? ⟨w.heap.size,0,none⟩=some (.slice a0 st.length c0)∧wv.cell? ⟨w.heap.size,1,none⟩=some (.slice a1 ss.length c1)∧wv.cell? ⟨w.heap.size,2,none⟩=some (.slice a2 ps.length c2)∧wv.cell? ⟨w.heap.size,3,none⟩=some (.slice a3 qs.length c3)∧wv.cell? ⟨w.heap.size,4,none⟩=some (.slice a4 ds.length c4))∧wv.cell? ⟨w.heap.size+1,0,none⟩=some (.func (.func 87) #[] #[.pointer (some ⟨w.heap.size,0,none⟩)])):=jh (by
  rw [hwv]
  exact⟨⟨allocOld _ (allocAt _ rfl rfl),allocOld _ (allocAt _ rfl rfl),allocOld _ (allocAt _ rfl rfl),allocOld _ (allocAt _ rfl rfl),allocOld _ (allocAt _ rfl rfl)⟩,allocAt _ (by simp) rfl⟩)
 rw [← hwv]
 clear hwv
 have q1:=HQ.out.1.2.1
 have q2:=HQ.out.1.2.2.1
 by_cases hl:ss.length=ps.length
 ·have b1:((ss.length:Int) != (ps.length:Int))=false:=by simp;omega
  have b1':(ss.length != ps.length)=false:=by simp;omega
  have HLN:=jh hl
  clear hl
  obtain⟨g1,o1,hb1,ha1⟩:=(H1.out.chg HCV.out (fun _ _ h=>h)).bytes
  obtain⟨g2,o2,hb2,ha2⟩:=(H2.out.chg HCV.out (fun _ _ h=>h)).bytes
  have hcb:=(Chg.refl (fun _=>False) wv).alloc (.cells #[.slice a1 ss.length c1,.slice a2 ps.length c2] 25)
  have HCO:=jh (I.concat_gen ss ps a1 a2 g1 o1 c1 g2 o2 c2 wv.heap.size _ (hb1.chg hcb (fun _ h=>h)) ha1 (hb2.chg hcb (fun _ h=>h)) ha2 f1 f2 (allocAt (w:=wv) (cs:=#[.slice a1 ss.length c1,.slice a2 ps.length c2]) 25 rfl rfl) (allocAt (w:=wv) (cs:=#[.slice a1 ss.length c1,.slice a2 ps.length c2]) 25 rfl rfl))
  have HCB:=jh hcb
  clear hb1 hb2 ha1 ha2 hcb
  go_wp2_with fail
  refine HCO.out.mono ?_
  rintro e w1 ⟨v1,rfl,ho1,hc1⟩
  obtain⟨va,vc,rfl⟩:=ho1.shape
  have HV1:Hid (Chg (fun _=>False) wv w1):=jh (HCB.out.trans hc1)
  have hcs:=containsI_any 88 #[.pointer (some ⟨w.heap.size+1,0,none⟩)] (fun i=>!stateB st.length i) (ss++ps) va vc 0 w1 eg1 ((intOwnI ho1).inC.lower (Nat.zero_le _)) (gives_stateF (w.heap.size+1) w.heap.size st.length a0 c0 w1 (HV1.out.cellS HQ.out.2 (fun h=>h)) (HV1.out.cellS HQ.out.1.1 (fun h=>h))) (by rw [List.length_append];omega)
  rw [List.length_append] at hcs
  have HCS:=jh hcs
  clear hcs
  have p3:=HV1.out.cellS HQ.out.1.2.2.2.1 (fun h=>h)
  clear ho1 hc1 HCO q1 q2
  cases hst:(ss++ps).any (fun i=>!stateB st.length i) with
  | true =>
   rw [hst] at HCS
   have HF:Hid (mayNet ⟨st,ss,ps,qs,ds⟩=false):=jh (by simp only [mayNet,hst,Bool.not_true,Bool.and_false,Bool.false_and])
   clear hst
   go_wp2_with fail
   refine HCS.out.mono ?_
   rintro e w2 ⟨rfl,hc2⟩
   have HC2:=jh (HCV.out.trans (HV1.out.trans hc2))
   have p3:=hc2.cellS p3 (fun h=>h)
   clear hc2
   go_wp2
   go_ret
   exact⟨by rw [HF.out];rfl,HC2.out⟩
  | false =>
   rw [hst] at HCS
   have HA1:=jh hst
   clear hst
   go_wp2_with fail
   refine HCS.out.mono ?_
   rintro e w2 ⟨rfl,hc2⟩
   have HV2:Hid (Chg (fun _=>False) wv w2):=jh (HV1.out.trans hc2)
   have HCP:=jh (containsI_any 91 #[.pointer (some ⟨w.heap.size,0,none⟩)] (predBad st.length) qs a3 c3 0 w2 eg2 ((H3.out.chg (HCV.out.trans HV2.out) (fun _ _ h=>h)).in' (fun _ _=>Nat.zero_le _)) (gives_pred w.heap.size st.length a0 c0 w2 f0 (HV2.out.cellS HQ.out.1.1 (fun h=>h))) f3)
   have p3:=hc2.cellS p3 (fun h=>h)
   clear hc2
   cases hpr:qs.any (predBad st.length) with
   | true =>
    rw [hpr] at HCP
    have HF:Hid (mayNet ⟨st,ss,ps,qs,ds⟩=false):=jh (by simp only [mayNet,hpr,Bool.not_true,Bool.and_false,Bool.false_and])
    clear hpr
    go_wp2_with fail
    refine HCP.out.mono ?_
    rintro e w3 ⟨rfl,hc3⟩
    have HC3:=jh (HCV.out.trans (HV2.out.trans hc3))
    clear hc3
    go_wp2
    go_ret
    exact⟨by rw [HF.out];rfl,HC3.out⟩
   | false =>
    rw [hpr] at HCP
    have HMN:Hid (mayNet ⟨st,ss,ps,qs,ds⟩=(st.all (stOk st.length ss.length qs.length) && decide (decsOf st=ds))):=jh (by simp only [mayNet,HA1.out,hpr,decide_eq_true HLN.out,Bool.not_false,Bool.true_and,Bool.and_true])
    clear hpr
    go_wp2_with fail
    refine HCP.out.mono ?_
    rintro e w3 ⟨rfl,hc3⟩
    have HV3:Hid (Chg (fun _=>False) wv w3):=jh (HV2.out.trans hc3)
    have q0:=HV3.out.cellS HQ.out.1.1 (fun h=>h)
    clear hc3 p3
    go_wp2
    clear q0
    go_loopw [5,36] (fun v q wr=>∃ (k:Nat) (v0:Value),v0=v∧k≤st.length∧q=.int .i64 k∧(∀ (j:Nat) s,j<k→st[j]?=some s→stOk st.length ss.length qs.length s=true)∧intE.Own wr wv.heap.size v0 (decsFrom 0 (st.take k))∧Chg (fun _=>False) wv wr) (fun _ q _=>st.length-(intOf q).toNat)
    case atStart=>exact⟨0,_,rfl,by omega,rfl,fun j e h=>absurd h (Nat.not_lt_zero _),.nil _ _,HV3.out⟩
    case round =>
     obtain⟨k,v,rfl,hk,rfl,hb,ho,hc⟩:=hrel
     have HB:=jh hb
     have HO:=jh ho
     have HC:=jh hc
     have HCW:Hid (Chg (fun _=>False) w wr):=jh (HCV.out.trans hc)
     obtain⟨va,vn,vc,rfl⟩:=ho.shape3
     clear hb ho hc
     by_cases hkl:k<st.length
     ·have b9:decide ((k:Int)<(st.length:Int))=true:=by simp;omega
      have hkb:k<1000000000:=by omega
      obtain⟨x,⟨dr,al,ed⟩,g,o,hd,⟨hx,hxb⟩,ha,-,-,-,hcells⟩:=((ListR.good (bR.good stR.good)).chg H0.out HCW.out (fun _ _ h=>h)).get3 (f:=encSt) rfl hkl rfl
      obtain⟨xr,⟨aa,an,ac⟩,⟨ea,en,ec⟩⟩:=x
      obtain⟨hx1,hx2,hxa,hxe⟩:=hx
      simp only at hx1 hx2 hxa hxe
      obtain⟨rfl,-⟩:=hxa.len
      obtain⟨rfl,-⟩:=hxe.len
      subst hx1
      obtain⟨x0,x1,x2⟩:=hcells _ _ _ rfl
      unfold slV at x1 x2
      simp only at x0 x1 x2
      subst ha
      have HD:=jh hd
      have HXA:=jh hxa
      have HXE:=jh hxe
      have HX2:=jh hx2
      obtain⟨hxb1,hxb2⟩:=hxb
      simp only at hxb1 hxb2
      obtain⟨w5,hw5⟩:∃ W,W=wr.alloc (.cells #[.int .i64 xr,.slice aa al.length ac,.slice ea ed.length ec] 74):=⟨_,rfl⟩
      have HC5:Hid (Chg (fun _=>False) wr w5):=jh (by rw [hw5];exact (Chg.refl _ _).alloc _)
      have y0:w5.cell? ⟨wr.heap.size,0,none⟩=some (.int .i64 xr):=by rw [hw5];exact allocAt _ rfl rfl
      have y1:w5.cell? ⟨wr.heap.size,1,none⟩=some (.slice aa al.length ac):=by rw [hw5];exact allocAt _ rfl rfl
      have y2:w5.cell? ⟨wr.heap.size,2,none⟩=some (.slice ea ed.length ec):=by rw [hw5];exact allocAt _ rfl rfl
      have HV5:Hid (Chg (fun _=>False) wv w5):=jh (HC.out.trans HC5.out)
      have m0:=HV5.out.cellS HQ.out.1.1 (fun h=>h)
      have m1:=HV5.out.cellS HQ.out.1.2.1 (fun h=>h)
      have m2:=HV5.out.cellS HQ.out.1.2.2.1 (fun h=>h)
      have m3:=HV5.out.cellS HQ.out.1.2.2.2.1 (fun h=>h)
      have m4:=HV5.out.cellS HQ.out.1.2.2.2.2 (fun h=>h)
      have HSM:=jh (stMay_any (xr,al,ed) aa ea ac ec st.length ss.length qs.length ds.length ps.length c0 c1 c2 c3 c4 (some ⟨g,o,none⟩) a1 a2 a3 a4 S w5 (HXA.out.chg HC5.out (fun _ _ h=>h)) (HXE.out.chg HC5.out (fun _ _ h=>h)) hxb1 hxb2)
      have HDT:=jh (decs_take hd)
      have HBAD:Hid (stOk st.length ss.length qs.length (xr,al,ed)=false→mayNet ⟨st,ss,ps,qs,ds⟩=false):=jh (fun h=>by
       have:st.all (stOk st.length ss.length qs.length)=false:=by
        rw [List.all_eq_false]
        exact⟨_,List.mem_of_getElem? HD.out,by rw [h];exact Bool.false_ne_true⟩
       rw [HMN.out,this,Bool.false_and])
      have HNX:Hid (stOk st.length ss.length qs.length (xr,al,ed)=true→∀ (j:Nat) s,j<k+1→st[j]?=some s→stOk st.length ss.length qs.length s=true):=jh (fun h j s hj hjs=>by
       by_cases hjk:j=k
       ·subst hjk
        rw [HD.out] at hjs
        obtain rfl:=Option.some.inj hjs
        exact h
       ·exact HB.out j s (by omega) hjs)
      clear hd hxa hxe hx2 hcells
      go_upto_region 9 with (fail)
      rw [← hw5]
      clear hw5 x0 x1 x2
      cases hsm:stMay st.length ss.length qs.length (xr,al,ed) with
      | false =>
       have HF:=jh (HBAD.out (by simp only [stOk,hsm,Bool.false_and]))
       rw [hsm] at HSM
       clear hsm
       go_wp2_with fail
       refine HSM.out.mono ?_
       rintro e w6 ⟨rfl,hc6⟩
       have HC6:=jh (HCV.out.trans (HV5.out.trans hc6))
       clear hc6
       go_wp2
       go_ret
       exact⟨by rw [HF.out];rfl,HC6.out⟩
      | true =>
       rw [hsm] at HSM
       by_cases r0:xr<0
       ·have d1:decide (xr<0)=true:=decide_eq_true r0
        have HF:=jh (HBAD.out (by simp only [stOk,decide_eq_false (show ¬ 0≤xr by omega),Bool.and_false,Bool.false_and]))
        clear hsm
        go_wp2_with fail
        refine HSM.out.mono ?_
        rintro e w6 ⟨rfl,hc6⟩
        have HC6:=jh (HCV.out.trans (HV5.out.trans hc6))
        have y0:=hc6.cellS y0 (fun h=>h)
        clear hc6
        go_wp2
        go_ret
        exact⟨by rw [HF.out];rfl,HC6.out⟩
       ·have d1:decide (xr<0)=false:=decide_eq_false r0
        by_cases r1:(ss.length:Int)≤xr
        ·have d2:decide ((ss.length:Int)≤xr)=true:=decide_eq_true r1
         have HF:=jh (HBAD.out (by simp only [stOk,decide_eq_false (show ¬ xr<(ss.length:Int) by omega),Bool.and_false]))
         clear hsm
         go_wp2_with fail
         refine HSM.out.mono ?_
         rintro e w6 ⟨rfl,hc6⟩
         have HC6:=jh (HCV.out.trans (HV5.out.trans hc6))
         have y0:=hc6.cellS y0 (fun h=>h)
         have m1:=hc6.cellS m1 (fun h=>h)
         clear hc6
         go_wp2
         go_ret
         exact⟨by rw [HF.out];rfl,HC6.out⟩
        ·have d2:decide ((ss.length:Int)≤xr)=false:=decide_eq_false r1
         have HN:=jh (HNX.out (by simp only [stOk,hsm,decide_eq_true (show 0≤xr by omega),decide_eq_true (show xr<(ss.length:Int) by omega),Bool.and_self]))
         clear hsm
         go_wp2_with fail
         refine HSM.out.mono ?_
         rintro e w6 ⟨rfl,hc6⟩
         have HV6:Hid (Chg (fun _=>False) wv w6):=jh (HV5.out.trans hc6)
         have HO6:=jh ((HO.out.chg HC5.out (fun _ _ _ h=>h)).chg hc6 (fun _ _ _ h=>h))
         have y0:=hc6.cellS y0 (fun h=>h)
         have y2:=hc6.cellS y2 (fun h=>h)
         have m1:=hc6.cellS m1 (fun h=>h)
         clear hc6 m0 m2 m3 m4 y1
         by_cases hdl:0<ed.length
         ·have b2:decide (0<ed.length)=true:=decide_eq_true hdl
          rw [if_pos hdl] at HDT
          have HXL:Hid ((decsFrom 0 (st.take k)).length≤1000000000):=jh (by have:=decsFrom_length (st.take k) 0;rw [List.length_take] at this;omega)
          have HY:Hid (∀ x∈[(k:Int)],intE.ok x):=jh (fun a ha=>by rw [List.mem_singleton] at ha;rw [ha];exact⟨by omega,by omega⟩)
          have HSRC:Hid (Src Tryz.prog intE.sz intE.sl (.slice (some ⟨w6.heap.size,0,none⟩) 1 1) 1 (intE.encs [(k:Int)]) (w6.alloc (.cells #[.int .i64 k] 3))):=jh (intE.srcLit (Y:=[(k:Int)]) 1 HY.out)
          have HSW:Hid (wv.heap.size≤w6.heap.size):=jh HV6.out.size
          go_wp2_with (at_builtin;refine Elt.wpList_append intE rfl _ _ 25 25 rfl rfl wv.heap.size (.slice va vn vc) (decsFrom 0 (st.take k)) [(k:Int)] (.slice (some ⟨w6.heap.size,0,none⟩) 1 1) rfl rfl (HO6.out.chg ((Chg.refl (fun _=>False) _).alloc _) (fun _ _ _ h=>h)) (by have:=HSW.out;simp;omega) HSRC.out HY.out (by have:=HXL.out;simp;omega) ?_;intro v' w7 HO7 HC7 HN7)
          rw [← HDT.out] at HO7
          have HV7:Hid (Chg (fun _=>False) wv w7):=jh (((HV6.out.alloc _).any.trans HC7.out).fresh)
          go_roundw
          case rel=>exact⟨k+1,_,rfl,by omega,by go_num,HN.out,HO7.out,HV7.out⟩
          case measure=>simp [intOf];omega
         ·have b2:decide (0<ed.length)=false:=decide_eq_false hdl
          rw [if_neg hdl,List.append_nil] at HDT
          rw [← HDT.out] at HO6
          go_wp2
          go_roundw
          case rel=>exact⟨k+1,_,rfl,by omega,by go_num,HN.out,HO6.out,HV6.out⟩
          case measure=>simp [intOf];omega
     ·obtain rfl:k=st.length:=by omega
      have b9:decide ((st.length:Int)<(st.length:Int))=false:=by simp
      rw [List.take_length] at HO
      have HALL:Hid (st.all (stOk st.length ss.length qs.length)=true):=jh (all_take (fun j x hx=>HB.out j x (List.getElem?_eq_some_iff.1 hx).1 hx))
      have HME:Hid (mayNet ⟨st,ss,ps,qs,ds⟩=decide (decsFrom 0 st=ds)):=jh (by rw [HMN.out,HALL.out,Bool.true_and];rfl)
      have HDIN:Hid (intE.In wr 0 (va,vn,vc) (decsFrom 0 st)):=jh (HO.out.inC.lower (Nat.zero_le _))
      obtain⟨rfl,-⟩:=HDIN.out.len
      have HDL:Hid ((decsFrom 0 st).length≤1000000000):=jh (by have:=decsFrom_length st 0;omega)
      have HEQ:=jh (equalInt_any (decsFrom 0 st) ds va a4 vc c4 0 0 wr HDIN.out ((H4.out.chg HCW.out (fun _ _ h=>h)).in' (fun _ _=>Nat.zero_le _)) HDL.out)
      have q4:=HC.out.cellS HQ.out.1.2.2.2.2 (fun h=>h)
      obtain⟨b,hb⟩:∃ b,decide (decsFrom 0 st=ds)=b:=⟨_,rfl⟩
      rw [hb] at HEQ HME
      clear hb
      go_wp2_with fail
      refine HEQ.out.mono ?_
      rintro e w6 ⟨rfl,hc6⟩
      have HC6:=jh (HCW.out.trans hc6)
      clear hc6
      go_wp2
      go_ret
      exact⟨by rw [HME.out];rfl,HC6.out⟩
 ·have b1:((ss.length:Int) != (ps.length:Int))=true:=by simp;omega
  have b1':(ss.length != ps.length)=true:=by simp;omega
  have HF:Hid (mayNet ⟨st,ss,ps,qs,ds⟩=false):=jh (by simp only [mayNet,decide_eq_false hl,Bool.false_and])
  go_wp2
  go_ret
  exact⟨by rw [HF.out];rfl,HCV.out⟩
end Go.Proofs.YtgnpmceimpjheaaGreat
