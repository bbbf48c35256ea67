/- A part of the proof: CodF PtC PtD MakeL CodV CodW CodA CodI. -/
import Derived.Test.YtgnpmceimpjheaaGreatGP7
import Derived.Test.YtgnpmceimpjheaaGreatGP4
import Derived.Test.YtgnpmceimpjheaaGreatGP3
import Derived.Laws.EntriesVeiled
set_option maxRecDepth 100000
set_option maxHeartbeats 16000000
namespace Go.Proofs.YtgnpmceimpjheaaGreat
open Go.RowKit
def mG {β δ:Type}(E:Elt β) (val:β->Value) (R:Rp β δ) (S:Nat->Prop) (f:FuncId) (lb:Array Value) (p:δ->Bool) (w:World):Prop:=∀(y:β) (d:δ) (w':World),R w' S y d->E.ok y->Cf w w' ->
 Calls Tryz.prog f (#[val y]++lb) w' λe w''=>e=.returned (.bool (p d))/\Cf w' w''
theorem zJ.get2 {β δ:Type}{E:Elt β}{R:Rp β δ}{w:World}{S:Nat->Prop}{a:Option Addr}{n c:Nat}{L:List δ}(h:zJ E R w S (a,n,c) L) (hz:E.sz=2) {k:Nat}(hk:k<L.length) {f:β->List Value}(hf:E.enc=f) :
  ∃(x:β) (d:δ) (g o:Nat),L[k]?=some d/\R w S x d/\a=some ⟨g,o,none⟩/\S g/\g<w.heap.size/\E.ok x/\∀u0 u1,f x=[u0,u1]->w.cell? ⟨g,o+k * 2,none⟩=some u0/\w.cell? ⟨g,o+k * 2+1,none⟩=some u1:=by
 obtain⟨x,d,g,o,h1,h2,h3,h4,h5,h6,h7⟩:=h.get hk;refine⟨x,d,g,o,h1,h2,h3,h4,h5,h6,λu0 u1 he=>?_⟩;rw[<-hf]at he;have c0:=h7 0 u0 (by rw[he];rfl);have c1:=h7 1 u1 (by rw[he];rfl);rw[hz]at c0 c1;exact⟨by simpa using c0,by rw[Av8];exact c1⟩
theorem zJ.get1' {β δ:Type}{E:Elt β}{R:Rp β δ}{w:World}{S:Nat->Prop}{a:Option Addr}{n c:Nat}{L:List δ}(h:zJ E R w S (a,n,c) L) (hz:E.sz=1) {k:Nat}(hk:k<L.length) {f:β->List Value}(hf:E.enc=f) :
  ∃(x:β) (d:δ) (g o:Nat),L[k]?=some d/\R w S x d/\a=some ⟨g,o,none⟩/\S g/\g<w.heap.size/\E.ok x/\∀u0,f x=[u0]->w.cell? ⟨g,o+k,none⟩=some u0:=by
 obtain⟨x,d,g,o,h1,h2,h3,h4,h5,h6,h7⟩:=h.get hk;refine⟨x,d,g,o,h1,h2,h3,h4,h5,h6,λu0 he=>?_⟩;rw[<-hf]at he;have c0:=h7 0 u0 (by rw[he];rfl);rw[hz,Nat.mul_one,Nat.add_zero]at c0;exact c0
def zC3 (s:Str):List Value:=[.string s]
def zMd (p:Int×Int):Value:=.agg #[.int .i32 p.1,.int .i32 p.2]
theorem zS7 {δ:Type}{R:Rp Str δ}(hR:Good R) {S:Nat->Prop}(f:FuncId) (lb:Array Value) (p:δ->Bool) (L:List δ) (a:Option Addr) (c:Nat) (w:World) (eg:∀args w,(callFunc f args).run Tryz.prog w=.ok (.enter f args) w) (h:zJ strE R w S (a,L.length,c) L) (hp:mG strE dG R S f lb p w) (hl:L.length<=1000000000) :
  Calls Tryz.prog 82 #[.slice a L.length c,.func (.func f) #[] lb] w λe w'=>e=.returned (.int .i64 (idxV p L))/\Cf w w':=by
 have HL:=jh h;have HP:=jh hp;have HR:=jh hR;clear h hp hR;go_enter Tryz.func82,Tryz.ntmps82
 go_wp2
 go_loopw [8] (λq wr=>∃k:Nat,k<=L.length/\q=.int .i64 k/\(∀(j:Nat) y,j<k->L[j]?=some y->p y=false)/\Cf w wr) (λq _=>L.length-(intOf q).toNat)
 case atStart=>exact⟨0,oM,rfl,λj y h=>absurd h (Ax _),Chg.refl _ _⟩
 case round =>
  obtain⟨k,hk,rfl,hb,hc⟩:=hrel;have HB:=jh hb;have HC:=jh hc;have HLW:=jh ((zJ.good HR.o).chg HL.o hc iF);clear hb hc;by_cases hkl:k<L.length
  .have b9:decide ((k:Int)<(L.length:Int))=true:=by simp;omega
   obtain⟨x,d,g,o,hx,hr,rfl,-,-,hok,hcells⟩:=HLW.o.get1' (f:=zC3) rfl hkl rfl;have HX:=jh hx;have hcall:=HP.o x d wr hr hok HC.o;have hcs:=hcells;clear hx hr hok HLW
   first|(have c0:=hcells _ rfl)|(obtain⟨c0,c1⟩:=hcells _ _ rfl)|(obtain⟨c0,c1,c2⟩:=hcells _ _ _ rfl)
   clear hcells hcs
   try unfold slV at c1
   try unfold slV at c2
   cases hxi:p d with
   | true =>
    rw[hxi]at hcall;have HF:Hd (idxV p L=k):=jh (uQ HX.o hxi HB.o);have HCALL:=jh hcall;clear hcall hxi;go_wp2_with fail
    refine HCALL.o.mono ?_;rintro e w2 ⟨rfl,hc2⟩;have HC2:=jh (HC.o.trans hc2);clear hc2 c0;go_wp2;go_ret
    exact⟨by rw[HF.o];rfl,HC2.o⟩
   | false =>
    rw[hxi]at hcall;have HB2:Hd (∀(j:Nat) y,j<k+1->L[j]?=some y->p y=false):=jh (λj y hj hy=>by
     by_cases he:j=k
     .subst he;rw[HX.o]at hy;obtain rfl:=Az3 hy;exact hxi
     .exact HB.o j y oM hy)
    have HCALL:=jh hcall;clear hcall hxi;go_wp2_with fail
    refine HCALL.o.mono ?_;rintro e w2 ⟨rfl,hc2⟩;have HC2:=jh (HC.o.trans hc2);clear hc2 c0;go_wp2;go_roundw
    case rel=>exact⟨k+1,oM,by go_num,HB2.o,HC2.o⟩
    case measure=>simp[intOf];omega
  .obtain rfl:k=L.length:=oM
   have HF:Hd (idxV p L=-1):=jh (rG HB.o);go_wp2;go_ret
   exact⟨by rw[HF.o];rfl,HC.o⟩
theorem aJ {δ:Type}{R:Rp Str δ}(hR:Good R) {S:Nat->Prop}(f:FuncId) (lb:Array Value) (p:δ->Bool) (L:List δ) (a:Option Addr) (c:Nat) (w:World) (eg:∀args w,(callFunc f args).run Tryz.prog w=.ok (.enter f args) w) (h:zJ strE R w S (a,L.length,c) L) (hp:mG strE dG R S f lb p w) (hl:L.length<=1000000000) :
  Calls Tryz.prog 36 #[.slice a L.length c,.func (.func f) #[] lb] w λe w'=>e=.returned (.bool (L.any p))/\Cf w w':=by
 have HL:=jh h;have HP:=jh hp;have HR:=jh hR;clear h hp hR;rcases tE p L with ⟨k,x,-,-,h3,-,h5⟩|⟨h3,-,h5⟩
 all_goals
  have HI:=jh h3;have HN:=jh h5;clear h3 h5;go_enter Tryz.func36,Tryz.ntmps36
  go_wp2_with fail
  refine (zS7 HR.o f lb p L a c _ eg HL.o HP.o hl).mono ?_;rintro e w2 ⟨rfl,hc2⟩;rw[HI.o];have HC:=jh hc2;clear hc2;go_wp2;go_ret
  exact⟨by rw[HN.o];rfl,HC.o⟩
theorem zS8 {δ:Type}{R:Rp (Int×Int) δ}(hR:Good R) {S:Nat->Prop}(f:FuncId) (lb:Array Value) (p:δ->Bool) (L:List δ) (a:Option Addr) (c:Nat) (w:World) (eg:∀args w,(callFunc f args).run Tryz.prog w=.ok (.enter f args) w) (h:zJ rngE R w S (a,L.length,c) L) (hp:mG rngE zMd R S f lb p w) (hl:L.length<=1000000000) :
  Calls Tryz.prog 130 #[.slice a L.length c,.func (.func f) #[] lb] w λe w'=>e=.returned (.int .i64 (idxV p L))/\Cf w w':=by
 have HL:=jh h;have HP:=jh hp;have HR:=jh hR;clear h hp hR;go_enter Tryz.func130,Tryz.ntmps130
 go_wp2
 go_loopw [8] (λq wr=>∃k:Nat,k<=L.length/\q=.int .i64 k/\(∀(j:Nat) y,j<k->L[j]?=some y->p y=false)/\Cf w wr) (λq _=>L.length-(intOf q).toNat)
 case atStart=>exact⟨0,oM,rfl,λj y h=>absurd h (Ax _),Chg.refl _ _⟩
 case round =>
  obtain⟨k,hk,rfl,hb,hc⟩:=hrel;have HB:=jh hb;have HC:=jh hc;have HLW:=jh ((zJ.good HR.o).chg HL.o hc iF);clear hb hc;by_cases hkl:k<L.length
  .have b9:decide ((k:Int)<(L.length:Int))=true:=by simp;omega
   obtain⟨x,d,g,o,hx,hr,rfl,-,-,hok,hcells⟩:=HLW.o.get2 (f:=zEj) rfl hkl rfl;have HX:=jh hx;have hcall:=HP.o x d wr hr hok HC.o;have hcs:=hcells;clear hx hr hok HLW
   first|(have c0:=hcells _ rfl)|(obtain⟨c0,c1⟩:=hcells _ _ rfl)|(obtain⟨c0,c1,c2⟩:=hcells _ _ _ rfl)
   clear hcells hcs
   try unfold slV at c1
   try unfold slV at c2
   cases hxi:p d with
   | true =>
    rw[hxi]at hcall;have HF:Hd (idxV p L=k):=jh (uQ HX.o hxi HB.o);have HCALL:=jh hcall;clear hcall hxi;go_wp2_with fail
    refine HCALL.o.mono ?_;rintro e w2 ⟨rfl,hc2⟩;have HC2:=jh (HC.o.trans hc2);clear hc2 c0;go_wp2;go_ret
    exact⟨by rw[HF.o];rfl,HC2.o⟩
   | false =>
    rw[hxi]at hcall;have HB2:Hd (∀(j:Nat) y,j<k+1->L[j]?=some y->p y=false):=jh (λj y hj hy=>by
     by_cases he:j=k
     .subst he;rw[HX.o]at hy;obtain rfl:=Az3 hy;exact hxi
     .exact HB.o j y oM hy)
    have HCALL:=jh hcall;clear hcall hxi;go_wp2_with fail
    refine HCALL.o.mono ?_;rintro e w2 ⟨rfl,hc2⟩;have HC2:=jh (HC.o.trans hc2);clear hc2 c0;go_wp2;go_roundw
    case rel=>exact⟨k+1,oM,by go_num,HB2.o,HC2.o⟩
    case measure=>simp[intOf];omega
  .obtain rfl:k=L.length:=oM
   have HF:Hd (idxV p L=-1):=jh (rG HB.o);go_wp2;go_ret
   exact⟨by rw[HF.o];rfl,HC.o⟩
theorem zDk {δ:Type}{R:Rp (Int×Int) δ}(hR:Good R) {S:Nat->Prop}(f:FuncId) (lb:Array Value) (p:δ->Bool) (L:List δ) (a:Option Addr) (c:Nat) (w:World) (eg:∀args w,(callFunc f args).run Tryz.prog w=.ok (.enter f args) w) (h:zJ rngE R w S (a,L.length,c) L) (hp:mG rngE zMd R S f lb p w) (hl:L.length<=1000000000) :
  Calls Tryz.prog 85 #[.slice a L.length c,.func (.func f) #[] lb] w λe w'=>e=.returned (.bool (L.any p))/\Cf w w':=by
 have HL:=jh h;have HP:=jh hp;have HR:=jh hR;clear h hp hR;rcases tE p L with ⟨k,x,-,-,h3,-,h5⟩|⟨h3,-,h5⟩
 all_goals
  have HI:=jh h3;have HN:=jh h5;clear h3 h5;go_enter Tryz.func85,Tryz.ntmps85
  go_wp2_with fail
  refine (zS8 HR.o f lb p L a c _ eg HL.o HP.o hl).mono ?_;rintro e w2 ⟨rfl,hc2⟩;rw[HI.o];have HC:=jh hc2;clear hc2;go_wp2;go_ret
  exact⟨by rw[HN.o];rfl,HC.o⟩
theorem zR1 {δ:Type}{R:Rp qS δ}(hR:Good R) {S:Nat->Prop}(f:FuncId) (lb:Array Value) (p:δ->Bool) (L:List δ) (a:Option Addr) (c:Nat) (w:World) (eg:∀args w,(callFunc f args).run Tryz.prog w=.ok (.enter f args) w) (h:zJ qC R w S (a,L.length,c) L) (hp:mG qC pN R S f lb p w) (hl:L.length<=1000000000) :
  Calls Tryz.prog 98 #[.slice a L.length c,.func (.func f) #[] lb] w λe w'=>e=.returned (.int .i64 (idxV p L))/\Cf w w':=by
 have HL:=jh h;have HP:=jh hp;have HR:=jh hR;clear h hp hR;go_enter Tryz.func98,Tryz.ntmps98
 go_wp2
 go_loopw [8] (λq wr=>∃k:Nat,k<=L.length/\q=.int .i64 k/\(∀(j:Nat) y,j<k->L[j]?=some y->p y=false)/\Cf w wr) (λq _=>L.length-(intOf q).toNat)
 case atStart=>exact⟨0,oM,rfl,λj y h=>absurd h (Ax _),Chg.refl _ _⟩
 case round =>
  obtain⟨k,hk,rfl,hb,hc⟩:=hrel;have HB:=jh hb;have HC:=jh hc;have HLW:=jh ((zJ.good HR.o).chg HL.o hc iF);clear hb hc;by_cases hkl:k<L.length
  .have b9:decide ((k:Int)<(L.length:Int))=true:=by simp;omega
   obtain⟨x,d,g,o,hx,hr,rfl,-,-,hok,hcells⟩:=HLW.o.get3 (f:=aY) rfl hkl rfl;have HX:=jh hx;have hcall:=HP.o x d wr hr hok HC.o;have hcs:=hcells;clear hx hr hok HLW
   first|(have c0:=hcells _ rfl)|(obtain⟨c0,c1⟩:=hcells _ _ rfl)|(obtain⟨c0,c1,c2⟩:=hcells _ _ _ rfl)
   clear hcells hcs
   try unfold slV at c1
   try unfold slV at c2
   cases hxi:p d with
   | true =>
    rw[hxi]at hcall;have HF:Hd (idxV p L=k):=jh (uQ HX.o hxi HB.o);have HCALL:=jh hcall;clear hcall hxi;go_wp2_with fail
    refine HCALL.o.mono ?_;rintro e w2 ⟨rfl,hc2⟩;have HC2:=jh (HC.o.trans hc2);clear hc2 c0;go_wp2;go_ret
    exact⟨by rw[HF.o];rfl,HC2.o⟩
   | false =>
    rw[hxi]at hcall;have HB2:Hd (∀(j:Nat) y,j<k+1->L[j]?=some y->p y=false):=jh (λj y hj hy=>by
     by_cases he:j=k
     .subst he;rw[HX.o]at hy;obtain rfl:=Az3 hy;exact hxi
     .exact HB.o j y oM hy)
    have HCALL:=jh hcall;clear hcall hxi;go_wp2_with fail
    refine HCALL.o.mono ?_;rintro e w2 ⟨rfl,hc2⟩;have HC2:=jh (HC.o.trans hc2);clear hc2 c0;go_wp2;go_roundw
    case rel=>exact⟨k+1,oM,by go_num,HB2.o,HC2.o⟩
    case measure=>simp[intOf];omega
  .obtain rfl:k=L.length:=oM
   have HF:Hd (idxV p L=-1):=jh (rG HB.o);go_wp2;go_ret
   exact⟨by rw[HF.o];rfl,HC.o⟩
theorem cL {δ:Type}{R:Rp qS δ}(hR:Good R) {S:Nat->Prop}(f:FuncId) (lb:Array Value) (p:δ->Bool) (L:List δ) (a:Option Addr) (c:Nat) (w:World) (eg:∀args w,(callFunc f args).run Tryz.prog w=.ok (.enter f args) w) (h:zJ qC R w S (a,L.length,c) L) (hp:mG qC pN R S f lb p w) (hl:L.length<=1000000000) :
  Calls Tryz.prog 42 #[.slice a L.length c,.func (.func f) #[] lb] w λe w'=>e=.returned (.bool (L.any p))/\Cf w w':=by
 have HL:=jh h;have HP:=jh hp;have HR:=jh hR;clear h hp hR;rcases tE p L with ⟨k,x,-,-,h3,-,h5⟩|⟨h3,-,h5⟩
 all_goals
  have HI:=jh h3;have HN:=jh h5;clear h3 h5;go_enter Tryz.func42,Tryz.ntmps42
  go_wp2_with fail
  refine (zR1 HR.o f lb p L a c _ eg HL.o HP.o hl).mono ?_;rintro e w2 ⟨rfl,hc2⟩;rw[HI.o];have HC:=jh hc2;clear hc2;go_wp2;go_ret
  exact⟨by rw[HN.o];rfl,HC.o⟩
theorem zT2 {δ:Type}{R:Rp (Int×Sl×Sl) δ}(hR:Good R) {S:Nat->Prop}(f:FuncId) (lb:Array Value) (p:δ->Bool) (L:List δ) (a:Option Addr) (c:Nat) (w:World) (eg:∀args w,(callFunc f args).run Tryz.prog w=.ok (.enter f args) w) (h:zJ stE R w S (a,L.length,c) L) (hp:mG stE zBw R S f lb p w) (hl:L.length<=1000000000) :
  Calls Tryz.prog 97 #[.slice a L.length c,.func (.func f) #[] lb] w λe w'=>e=.returned (.int .i64 (idxV p L))/\Cf w w':=by
 have HL:=jh h;have HP:=jh hp;have HR:=jh hR;clear h hp hR;go_enter Tryz.func97,Tryz.ntmps97
 go_wp2
 go_loopw [8] (λq wr=>∃k:Nat,k<=L.length/\q=.int .i64 k/\(∀(j:Nat) y,j<k->L[j]?=some y->p y=false)/\Cf w wr) (λq _=>L.length-(intOf q).toNat)
 case atStart=>exact⟨0,oM,rfl,λj y h=>absurd h (Ax _),Chg.refl _ _⟩
 case round =>
  obtain⟨k,hk,rfl,hb,hc⟩:=hrel;have HB:=jh hb;have HC:=jh hc;have HLW:=jh ((zJ.good HR.o).chg HL.o hc iF);clear hb hc;by_cases hkl:k<L.length
  .have b9:decide ((k:Int)<(L.length:Int))=true:=by simp;omega
   obtain⟨x,d,g,o,hx,hr,rfl,-,-,hok,hcells⟩:=HLW.o.get3 (f:=jA) rfl hkl rfl;have HX:=jh hx;have hcall:=HP.o x d wr hr hok HC.o;have hcs:=hcells;clear hx hr hok HLW
   first|(have c0:=hcells _ rfl)|(obtain⟨c0,c1⟩:=hcells _ _ rfl)|(obtain⟨c0,c1,c2⟩:=hcells _ _ _ rfl)
   clear hcells hcs
   try unfold slV at c1
   try unfold slV at c2
   cases hxi:p d with
   | true =>
    rw[hxi]at hcall;have HF:Hd (idxV p L=k):=jh (uQ HX.o hxi HB.o);have HCALL:=jh hcall;clear hcall hxi;go_wp2_with fail
    refine HCALL.o.mono ?_;rintro e w2 ⟨rfl,hc2⟩;have HC2:=jh (HC.o.trans hc2);clear hc2 c0;go_wp2;go_ret
    exact⟨by rw[HF.o];rfl,HC2.o⟩
   | false =>
    rw[hxi]at hcall;have HB2:Hd (∀(j:Nat) y,j<k+1->L[j]?=some y->p y=false):=jh (λj y hj hy=>by
     by_cases he:j=k
     .subst he;rw[HX.o]at hy;obtain rfl:=Az3 hy;exact hxi
     .exact HB.o j y oM hy)
    have HCALL:=jh hcall;clear hcall hxi;go_wp2_with fail
    refine HCALL.o.mono ?_;rintro e w2 ⟨rfl,hc2⟩;have HC2:=jh (HC.o.trans hc2);clear hc2 c0;go_wp2;go_roundw
    case rel=>exact⟨k+1,oM,by go_num,HB2.o,HC2.o⟩
    case measure=>simp[intOf];omega
  .obtain rfl:k=L.length:=oM
   have HF:Hd (idxV p L=-1):=jh (rG HB.o);go_wp2;go_ret
   exact⟨by rw[HF.o];rfl,HC.o⟩
theorem zFs {δ:Type}{R:Rp (Int×Sl×Sl) δ}(hR:Good R) {S:Nat->Prop}(f:FuncId) (lb:Array Value) (p:δ->Bool) (L:List δ) (a:Option Addr) (c:Nat) (w:World) (eg:∀args w,(callFunc f args).run Tryz.prog w=.ok (.enter f args) w) (h:zJ stE R w S (a,L.length,c) L) (hp:mG stE zBw R S f lb p w) (hl:L.length<=1000000000) :
  Calls Tryz.prog 40 #[.slice a L.length c,.func (.func f) #[] lb] w λe w'=>e=.returned (.bool (L.any p))/\Cf w w':=by
 have HL:=jh h;have HP:=jh hp;have HR:=jh hR;clear h hp hR;rcases tE p L with ⟨k,x,-,-,h3,-,h5⟩|⟨h3,-,h5⟩
 all_goals
  have HI:=jh h3;have HN:=jh h5;clear h3 h5;go_enter Tryz.func40,Tryz.ntmps40
  go_wp2_with fail
  refine (zT2 HR.o f lb p L a c _ eg HL.o HP.o hl).mono ?_;rintro e w2 ⟨rfl,hc2⟩;rw[HI.o];have HC:=jh hc2;clear hc2;go_wp2;go_ret
  exact⟨by rw[HN.o];rfl,HC.o⟩
theorem zT3 {δ:Type}{R:Rp (Int×Sl×Sl) δ}(hR:Good R) {S:Nat->Prop}(f:FuncId) (lb:Array Value) (p:δ->Bool) (L:List δ) (a:Option Addr) (c:Nat) (w:World) (eg:∀args w,(callFunc f args).run Tryz.prog w=.ok (.enter f args) w) (h:zJ lsE R w S (a,L.length,c) L) (hp:mG lsE zCq R S f lb p w) (hl:L.length<=1000000000) :
  Calls Tryz.prog 137 #[.slice a L.length c,.func (.func f) #[] lb] w λe w'=>e=.returned (.int .i64 (idxV p L))/\Cf w w':=by
 have HL:=jh h;have HP:=jh hp;have HR:=jh hR;clear h hp hR;go_enter Tryz.func137,Tryz.ntmps137
 go_wp2
 go_loopw [8] (λq wr=>∃k:Nat,k<=L.length/\q=.int .i64 k/\(∀(j:Nat) y,j<k->L[j]?=some y->p y=false)/\Cf w wr) (λq _=>L.length-(intOf q).toNat)
 case atStart=>exact⟨0,oM,rfl,λj y h=>absurd h (Ax _),Chg.refl _ _⟩
 case round =>
  obtain⟨k,hk,rfl,hb,hc⟩:=hrel;have HB:=jh hb;have HC:=jh hc;have HLW:=jh ((zJ.good HR.o).chg HL.o hc iF);clear hb hc;by_cases hkl:k<L.length
  .have b9:decide ((k:Int)<(L.length:Int))=true:=by simp;omega
   obtain⟨x,d,g,o,hx,hr,rfl,-,-,hok,hcells⟩:=HLW.o.get3 (f:=zGy) rfl hkl rfl;have HX:=jh hx;have hcall:=HP.o x d wr hr hok HC.o;have hcs:=hcells;clear hx hr hok HLW
   first|(have c0:=hcells _ rfl)|(obtain⟨c0,c1⟩:=hcells _ _ rfl)|(obtain⟨c0,c1,c2⟩:=hcells _ _ _ rfl)
   clear hcells hcs
   try unfold slV at c1
   try unfold slV at c2
   cases hxi:p d with
   | true =>
    rw[hxi]at hcall;have HF:Hd (idxV p L=k):=jh (uQ HX.o hxi HB.o);have HCALL:=jh hcall;clear hcall hxi;go_wp2_with fail
    refine HCALL.o.mono ?_;rintro e w2 ⟨rfl,hc2⟩;have HC2:=jh (HC.o.trans hc2);clear hc2 c0;go_wp2;go_ret
    exact⟨by rw[HF.o];rfl,HC2.o⟩
   | false =>
    rw[hxi]at hcall;have HB2:Hd (∀(j:Nat) y,j<k+1->L[j]?=some y->p y=false):=jh (λj y hj hy=>by
     by_cases he:j=k
     .subst he;rw[HX.o]at hy;obtain rfl:=Az3 hy;exact hxi
     .exact HB.o j y oM hy)
    have HCALL:=jh hcall;clear hcall hxi;go_wp2_with fail
    refine HCALL.o.mono ?_;rintro e w2 ⟨rfl,hc2⟩;have HC2:=jh (HC.o.trans hc2);clear hc2 c0;go_wp2;go_roundw
    case rel=>exact⟨k+1,oM,by go_num,HB2.o,HC2.o⟩
    case measure=>simp[intOf];omega
  .obtain rfl:k=L.length:=oM
   have HF:Hd (idxV p L=-1):=jh (rG HB.o);go_wp2;go_ret
   exact⟨by rw[HF.o];rfl,HC.o⟩
theorem zFt {δ:Type}{R:Rp (Int×Sl×Sl) δ}(hR:Good R) {S:Nat->Prop}(f:FuncId) (lb:Array Value) (p:δ->Bool) (L:List δ) (a:Option Addr) (c:Nat) (w:World) (eg:∀args w,(callFunc f args).run Tryz.prog w=.ok (.enter f args) w) (h:zJ lsE R w S (a,L.length,c) L) (hp:mG lsE zCq R S f lb p w) (hl:L.length<=1000000000) :
  Calls Tryz.prog 94 #[.slice a L.length c,.func (.func f) #[] lb] w λe w'=>e=.returned (.bool (L.any p))/\Cf w w':=by
 have HL:=jh h;have HP:=jh hp;have HR:=jh hR;clear h hp hR;rcases tE p L with ⟨k,x,-,-,h3,-,h5⟩|⟨h3,-,h5⟩
 all_goals
  have HI:=jh h3;have HN:=jh h5;clear h3 h5;go_enter Tryz.func94,Tryz.ntmps94
  go_wp2_with fail
  refine (zT3 HR.o f lb p L a c _ eg HL.o HP.o hl).mono ?_;rintro e w2 ⟨rfl,hc2⟩;rw[HI.o];have HC:=jh hc2;clear hc2;go_wp2;go_ret
  exact⟨by rw[HN.o];rfl,HC.o⟩
end Go.Proofs.YtgnpmceimpjheaaGreat
namespace Go.Proofs.YtgnpmceimpjheaaGreat
open Go.RowKit
section
variable {β δ:Type}
structure SideW (pg B:Nat) (C:World->Nat->Prop) (St:World->List δ->List Int->Prop):Prop where
 get:∀{w acc Z},St w acc Z->PSt pg B w Z
 sub:∀{w k},Cp pg w k->C w k
 low:∀{w acc Z k},St w acc Z->C w k->B<=k
 move:∀{w w' acc Z Z'},St w acc Z->Puts pg B w w' Z'->St w' acc Z'/\∀k,C w' k->C w k\/w.heap.size<=k
def uJ (C:World->Nat->Prop) (St:World->List δ->List Int->Prop) (w:World) (L:List δ) (Z:List Int) (e:Ending) (w':World):Prop :=
 e=.returned (.tuple #[])/\St w' L Z/\Chg (C w) w w'/\∀k,C w' k->C w k\/w.heap.size<=k
def aN (f:FuncId) (fa lb:Array Value) (enc:δ->List Int) (ok:δ->Prop) (E:Elt β) (val:β->Value) (R:Rp β δ) (B:Nat) (C:World->Nat->Prop) (St:World->List δ->List Int->Prop):Prop :=
 ∀(w:World) (acc:List δ) (Z:List Int) (x:β) (d:δ),St w acc Z->acc.length<=1000000000->E.ok x->R w (·<B) x d->ok d->(Z++enc d).length<=1000000000 ->
  Calls Tryz.prog f (fa++#[val x]++lb) w (uJ C St w (acc++[d]) (Z++enc d))
theorem uJ.trans {C:World->Nat->Prop}{St:World->List δ->List Int->Prop}{a b c:World}{L M:List δ}{Z Y:List Int}{e e':Ending}(h:uJ C St a L Z e b) (k:uJ C St b M Y e' c):uJ C St a M Y e' c:=by
 obtain⟨-,h2,h3,h4⟩:=h;obtain⟨k1,k2,k3,k4⟩:=k;refine⟨k1,k2,h3.trans2 k3 (λj hj hC=>(h4 j hC).resolve_right oM),λj hj=>?_⟩;rcases k4 j hj with h5|h5
 .exact h4 j h5
 .exact .inr (Ay4 h3.size h5)
theorem uJ.puts {pg B:Nat}{C:World->Nat->Prop}{St:World->List δ->List Int->Prop}(hS:SideW pg B C St) {w w':World}{acc:List δ}{Z Z':List Int}(h:St w acc Z) (hp:Puts pg B w w' Z'):uJ C St w acc Z' (.returned (.tuple #[])) w':=by
 obtain⟨h1,h2⟩:=hS.move h hp;exact⟨rfl,h1,hp.chg.mono (λk _ hk=>hS.sub hk),h2⟩
theorem zU {enc:δ->List Int}{L:List δ}{k:Nat}{d:δ}(h:L[k]?=some d):(L.take (k+1)).flatMap enc=(L.take k).flatMap enc++enc d:=by
 rw[Ay1,h,List.flatMap_append];simp
theorem yU {enc:δ->List Int}{L:List δ}(k:Nat):((L.take k).flatMap enc).length<=(L.flatMap enc).length:=by
 conv=>rhs;rw[<-List.take_append_drop k L,List.flatMap_append,Az0]
 omega
end
def zH0 (n:Int):List Value:=[.int .i64 n]
theorem zSx {δ:Type}{R:Rp Str δ}(hR:Good R) {pg B:Nat}{C:World->Nat->Prop}{St:World->List δ->List Int->Prop}(hS:SideW pg B C St) (f:FuncId) (fa lb:Array Value) (enc:δ->List Int) (ok:δ->Prop) (eg:∀args w,(callFunc f args).run Tryz.prog w=.ok (.enter f args) w)
  (hW:aN f fa lb enc ok strE dG R B C St) (L:List δ) (a:Option Addr) (c:Nat) (w:World) (Z:List Int) (h:St w [] Z) (hL:zJ strE R w (·<B) (a,L.length,c) L) (hok:∀d∈L,ok d) (hn:L.length<=1000000000) (hl:(Z++zS enc L).length<=1000000000) :
  Calls Tryz.prog 25 #[.pointer (some ⟨pg,0,none⟩),.slice a L.length c,.func (.func f) fa lb] w (uJ C St w L (Z++zS enc L)):=by
 have HW:=jh hW;have HR:=jh hR;have HS:=jh hS;have HST:=jh h;have HL:=jh hL;have HOK:=jh hok;have HLEN:=jh hl;have HN:=jh (uA (L.length:Int) w (hS.get h) oM (by rw[Az0]at hl;omega));have HPL:Hd (zN (L.length:Int)=putL L.length):=jh (by unfold zN;rw[Ay6]);clear hW hR hS h hL hok hl;go_enter Tryz.func25,Tryz.ntmps25
 go_wp2_with fail
 refine HN.o.mono ?_;rintro e w1 ⟨rfl,hp⟩;rw[HPL.o]at hp;have HP0:=jh (uJ.puts HS.o HST.o hp);clear hp HN;go_wp2
 go_loopw [14] (λq wr=>∃k:Nat,k<=L.length/\q=.int .i64 k/\uJ C St w (L.take k) (Z++putL L.length++(L.take k).flatMap enc) (.returned (.tuple #[])) wr) (λq _=>L.length-(intOf q).toNat)
 case atStart=>exact⟨0,oM,rfl,by simpa using HP0.o⟩
 case round =>
  clear HP0;obtain⟨k,hk,rfl,hp⟩:=hrel;have HP:=jh hp;clear hp;by_cases hkl:k<L.length
  .have b9:decide ((k:Int)<(L.length:Int))=true:=by simp;omega
   have HLW:=jh ((zJ.good HR.o).chg HL.o HP.o.2.2.1 (λg hg hC=>by have:=HS.o.low HST.o hC;omega));obtain⟨x,d,g,o,hx,hr,rfl,-,-,hox,hcells⟩:=HLW.o.get1' (f:=zC3) rfl hkl rfl;have HX:=jh hx;have HRX:=jh hr;have HOX:=jh hox;have HLE:Hd ((Z++putL L.length++(L.take k).flatMap enc++enc d).length<=1000000000):=jh (by
    have h1:=HLEN.o;have h2:=yU (enc:=enc) (L:=L) (k+1);rw[zU HX.o]at h2;unfold zS at h1;simp only[Az0]at h1 h2 ⊢;omega)
   have HCALL:Hd (∀W,Cf wr W->Calls Tryz.prog f (fa++#[dG x]++lb) W (uJ C St w (L.take (k+1)) (Z++putL L.length++(L.take (k+1)).flatMap enc))):=jh (λW hc=>by
    have h1:=uJ.puts HS.o HP.o.2.1 ((HS.o.get HP.o.2.1).fresh hc);refine (HW.o W (L.take k) _ x d h1.2.1 (by rw[Ax1];omega) HOX.o (HR.o.chg HRX.o hc iF) (HOK.o d (Az2 HX.o)) HLE.o).mono ?_;intro e w' h2;have h3:=(HP.o.trans h1).trans h2;rw[zU HX.o,Ay1,HX.o,<-Az5];exact h3)
   have hcs:=hcells;clear hx hr hox HLW
   first|(have c0:=hcells _ rfl)|(obtain⟨c0,c1,c2⟩:=hcells _ _ _ rfl)
   clear hcells hcs
   try unfold slV at c1
   try unfold slV at c2
   go_wp2_with fail
   refine (HCALL.o _ (by first|exact Chg.refl _ _|exact (Chg.refl _ _).alloc _)).mono ?_;rintro e w2 ⟨rfl,h2⟩;have HP2:Hd (uJ C St w (L.take (k+1)) (Z++putL L.length++(L.take (k+1)).flatMap enc) (.returned (.tuple #[])) w2):=jh ⟨rfl,h2⟩;clear h2 c0 HCALL;go_wp2;go_roundw
   case rel=>exact⟨k+1,oM,by go_num,HP2.o⟩
   case measure=>simp[intOf];omega
  .obtain rfl:k=L.length:=oM
   have HF:Hd (uJ C St w L (Z++zS enc L) (.returned (.tuple #[])) wr):=jh (by
    have:=HP.o;rw[Ax6 (Ay _),Az5]at this;exact this)
   go_wp2;go_end0
   exact HF.o
theorem zSy {δ:Type}{R:Rp Int δ}(hR:Good R) {pg B:Nat}{C:World->Nat->Prop}{St:World->List δ->List Int->Prop}(hS:SideW pg B C St) (f:FuncId) (fa lb:Array Value) (enc:δ->List Int) (ok:δ->Prop) (eg:∀args w,(callFunc f args).run Tryz.prog w=.ok (.enter f args) w)
  (hW:aN f fa lb enc ok intE zCt R B C St) (L:List δ) (a:Option Addr) (c:Nat) (w:World) (Z:List Int) (h:St w [] Z) (hL:zJ intE R w (·<B) (a,L.length,c) L) (hok:∀d∈L,ok d) (hn:L.length<=1000000000) (hl:(Z++zS enc L).length<=1000000000) :
  Calls Tryz.prog 69 #[.pointer (some ⟨pg,0,none⟩),.slice a L.length c,.func (.func f) fa lb] w (uJ C St w L (Z++zS enc L)):=by
 have HW:=jh hW;have HR:=jh hR;have HS:=jh hS;have HST:=jh h;have HL:=jh hL;have HOK:=jh hok;have HLEN:=jh hl;have HN:=jh (uA (L.length:Int) w (hS.get h) oM (by rw[Az0]at hl;omega));have HPL:Hd (zN (L.length:Int)=putL L.length):=jh (by unfold zN;rw[Ay6]);clear hW hR hS h hL hok hl;go_enter Tryz.func69,Tryz.ntmps69
 go_wp2_with fail
 refine HN.o.mono ?_;rintro e w1 ⟨rfl,hp⟩;rw[HPL.o]at hp;have HP0:=jh (uJ.puts HS.o HST.o hp);clear hp HN;go_wp2
 go_loopw [14] (λq wr=>∃k:Nat,k<=L.length/\q=.int .i64 k/\uJ C St w (L.take k) (Z++putL L.length++(L.take k).flatMap enc) (.returned (.tuple #[])) wr) (λq _=>L.length-(intOf q).toNat)
 case atStart=>exact⟨0,oM,rfl,by simpa using HP0.o⟩
 case round =>
  clear HP0;obtain⟨k,hk,rfl,hp⟩:=hrel;have HP:=jh hp;clear hp;by_cases hkl:k<L.length
  .have b9:decide ((k:Int)<(L.length:Int))=true:=by simp;omega
   have HLW:=jh ((zJ.good HR.o).chg HL.o HP.o.2.2.1 (λg hg hC=>by have:=HS.o.low HST.o hC;omega));obtain⟨x,d,g,o,hx,hr,rfl,-,-,hox,hcells⟩:=HLW.o.get1' (f:=zH0) rfl hkl rfl;have HX:=jh hx;have HRX:=jh hr;have HOX:=jh hox;have HLE:Hd ((Z++putL L.length++(L.take k).flatMap enc++enc d).length<=1000000000):=jh (by
    have h1:=HLEN.o;have h2:=yU (enc:=enc) (L:=L) (k+1);rw[zU HX.o]at h2;unfold zS at h1;simp only[Az0]at h1 h2 ⊢;omega)
   have HCALL:Hd (∀W,Cf wr W->Calls Tryz.prog f (fa++#[zCt x]++lb) W (uJ C St w (L.take (k+1)) (Z++putL L.length++(L.take (k+1)).flatMap enc))):=jh (λW hc=>by
    have h1:=uJ.puts HS.o HP.o.2.1 ((HS.o.get HP.o.2.1).fresh hc);refine (HW.o W (L.take k) _ x d h1.2.1 (by rw[Ax1];omega) HOX.o (HR.o.chg HRX.o hc iF) (HOK.o d (Az2 HX.o)) HLE.o).mono ?_;intro e w' h2;have h3:=(HP.o.trans h1).trans h2;rw[zU HX.o,Ay1,HX.o,<-Az5];exact h3)
   have hcs:=hcells;clear hx hr hox HLW
   first|(have c0:=hcells _ rfl)|(obtain⟨c0,c1,c2⟩:=hcells _ _ _ rfl)
   clear hcells hcs
   try unfold slV at c1
   try unfold slV at c2
   go_wp2_with fail
   refine (HCALL.o _ (by first|exact Chg.refl _ _|exact (Chg.refl _ _).alloc _)).mono ?_;rintro e w2 ⟨rfl,h2⟩;have HP2:Hd (uJ C St w (L.take (k+1)) (Z++putL L.length++(L.take (k+1)).flatMap enc) (.returned (.tuple #[])) w2):=jh ⟨rfl,h2⟩;clear h2 c0 HCALL;go_wp2;go_roundw
   case rel=>exact⟨k+1,oM,by go_num,HP2.o⟩
   case measure=>simp[intOf];omega
  .obtain rfl:k=L.length:=oM
   have HF:Hd (uJ C St w L (Z++zS enc L) (.returned (.tuple #[])) wr):=jh (by
    have:=HP.o;rw[Ax6 (Ay _),Az5]at this;exact this)
   go_wp2;go_end0
   exact HF.o
theorem zRs {δ:Type}{R:Rp qS δ}(hR:Good R) {pg B:Nat}{C:World->Nat->Prop}{St:World->List δ->List Int->Prop}(hS:SideW pg B C St) (f:FuncId) (fa lb:Array Value) (enc:δ->List Int) (ok:δ->Prop) (eg:∀args w,(callFunc f args).run Tryz.prog w=.ok (.enter f args) w)
  (hW:aN f fa lb enc ok qC pN R B C St) (L:List δ) (a:Option Addr) (c:Nat) (w:World) (Z:List Int) (h:St w [] Z) (hL:zJ qC R w (·<B) (a,L.length,c) L) (hok:∀d∈L,ok d) (hn:L.length<=1000000000) (hl:(Z++zS enc L).length<=1000000000) :
  Calls Tryz.prog 67 #[.pointer (some ⟨pg,0,none⟩),.slice a L.length c,.func (.func f) fa lb] w (uJ C St w L (Z++zS enc L)):=by
 have HW:=jh hW;have HR:=jh hR;have HS:=jh hS;have HST:=jh h;have HL:=jh hL;have HOK:=jh hok;have HLEN:=jh hl;have HN:=jh (uA (L.length:Int) w (hS.get h) oM (by rw[Az0]at hl;omega));have HPL:Hd (zN (L.length:Int)=putL L.length):=jh (by unfold zN;rw[Ay6]);clear hW hR hS h hL hok hl;go_enter Tryz.func67,Tryz.ntmps67
 go_wp2_with fail
 refine HN.o.mono ?_;rintro e w1 ⟨rfl,hp⟩;rw[HPL.o]at hp;have HP0:=jh (uJ.puts HS.o HST.o hp);clear hp HN;go_wp2
 go_loopw [14] (λq wr=>∃k:Nat,k<=L.length/\q=.int .i64 k/\uJ C St w (L.take k) (Z++putL L.length++(L.take k).flatMap enc) (.returned (.tuple #[])) wr) (λq _=>L.length-(intOf q).toNat)
 case atStart=>exact⟨0,oM,rfl,by simpa using HP0.o⟩
 case round =>
  clear HP0;obtain⟨k,hk,rfl,hp⟩:=hrel;have HP:=jh hp;clear hp;by_cases hkl:k<L.length
  .have b9:decide ((k:Int)<(L.length:Int))=true:=by simp;omega
   have HLW:=jh ((zJ.good HR.o).chg HL.o HP.o.2.2.1 (λg hg hC=>by have:=HS.o.low HST.o hC;omega));obtain⟨x,d,g,o,hx,hr,rfl,-,-,hox,hcells⟩:=HLW.o.get3 (f:=aY) rfl hkl rfl;have HX:=jh hx;have HRX:=jh hr;have HOX:=jh hox;have HLE:Hd ((Z++putL L.length++(L.take k).flatMap enc++enc d).length<=1000000000):=jh (by
    have h1:=HLEN.o;have h2:=yU (enc:=enc) (L:=L) (k+1);rw[zU HX.o]at h2;unfold zS at h1;simp only[Az0]at h1 h2 ⊢;omega)
   have HCALL:Hd (∀W,Cf wr W->Calls Tryz.prog f (fa++#[pN x]++lb) W (uJ C St w (L.take (k+1)) (Z++putL L.length++(L.take (k+1)).flatMap enc))):=jh (λW hc=>by
    have h1:=uJ.puts HS.o HP.o.2.1 ((HS.o.get HP.o.2.1).fresh hc);refine (HW.o W (L.take k) _ x d h1.2.1 (by rw[Ax1];omega) HOX.o (HR.o.chg HRX.o hc iF) (HOK.o d (Az2 HX.o)) HLE.o).mono ?_;intro e w' h2;have h3:=(HP.o.trans h1).trans h2;rw[zU HX.o,Ay1,HX.o,<-Az5];exact h3)
   have hcs:=hcells;clear hx hr hox HLW
   first|(have c0:=hcells _ rfl)|(obtain⟨c0,c1,c2⟩:=hcells _ _ _ rfl)
   clear hcells hcs
   try unfold slV at c1
   try unfold slV at c2
   go_wp2_with fail
   refine (HCALL.o _ (by first|exact Chg.refl _ _|exact (Chg.refl _ _).alloc _)).mono ?_;rintro e w2 ⟨rfl,h2⟩;have HP2:Hd (uJ C St w (L.take (k+1)) (Z++putL L.length++(L.take (k+1)).flatMap enc) (.returned (.tuple #[])) w2):=jh ⟨rfl,h2⟩;clear h2 c0 HCALL;go_wp2;go_roundw
   case rel=>exact⟨k+1,oM,by go_num,HP2.o⟩
   case measure=>simp[intOf];omega
  .obtain rfl:k=L.length:=oM
   have HF:Hd (uJ C St w L (Z++zS enc L) (.returned (.tuple #[])) wr):=jh (by
    have:=HP.o;rw[Ax6 (Ay _),Az5]at this;exact this)
   go_wp2;go_end0
   exact HF.o
theorem zTu {δ:Type}{R:Rp (Int×Sl×Sl) δ}(hR:Good R) {pg B:Nat}{C:World->Nat->Prop}{St:World->List δ->List Int->Prop}(hS:SideW pg B C St) (f:FuncId) (fa lb:Array Value) (enc:δ->List Int) (ok:δ->Prop) (eg:∀args w,(callFunc f args).run Tryz.prog w=.ok (.enter f args) w)
  (hW:aN f fa lb enc ok stE zBw R B C St) (L:List δ) (a:Option Addr) (c:Nat) (w:World) (Z:List Int) (h:St w [] Z) (hL:zJ stE R w (·<B) (a,L.length,c) L) (hok:∀d∈L,ok d) (hn:L.length<=1000000000) (hl:(Z++zS enc L).length<=1000000000) :
  Calls Tryz.prog 65 #[.pointer (some ⟨pg,0,none⟩),.slice a L.length c,.func (.func f) fa lb] w (uJ C St w L (Z++zS enc L)):=by
 have HW:=jh hW;have HR:=jh hR;have HS:=jh hS;have HST:=jh h;have HL:=jh hL;have HOK:=jh hok;have HLEN:=jh hl;have HN:=jh (uA (L.length:Int) w (hS.get h) oM (by rw[Az0]at hl;omega));have HPL:Hd (zN (L.length:Int)=putL L.length):=jh (by unfold zN;rw[Ay6]);clear hW hR hS h hL hok hl;go_enter Tryz.func65,Tryz.ntmps65
 go_wp2_with fail
 refine HN.o.mono ?_;rintro e w1 ⟨rfl,hp⟩;rw[HPL.o]at hp;have HP0:=jh (uJ.puts HS.o HST.o hp);clear hp HN;go_wp2
 go_loopw [14] (λq wr=>∃k:Nat,k<=L.length/\q=.int .i64 k/\uJ C St w (L.take k) (Z++putL L.length++(L.take k).flatMap enc) (.returned (.tuple #[])) wr) (λq _=>L.length-(intOf q).toNat)
 case atStart=>exact⟨0,oM,rfl,by simpa using HP0.o⟩
 case round =>
  clear HP0;obtain⟨k,hk,rfl,hp⟩:=hrel;have HP:=jh hp;clear hp;by_cases hkl:k<L.length
  .have b9:decide ((k:Int)<(L.length:Int))=true:=by simp;omega
   have HLW:=jh ((zJ.good HR.o).chg HL.o HP.o.2.2.1 (λg hg hC=>by have:=HS.o.low HST.o hC;omega));obtain⟨x,d,g,o,hx,hr,rfl,-,-,hox,hcells⟩:=HLW.o.get3 (f:=jA) rfl hkl rfl;have HX:=jh hx;have HRX:=jh hr;have HOX:=jh hox;have HLE:Hd ((Z++putL L.length++(L.take k).flatMap enc++enc d).length<=1000000000):=jh (by
    have h1:=HLEN.o;have h2:=yU (enc:=enc) (L:=L) (k+1);rw[zU HX.o]at h2;unfold zS at h1;simp only[Az0]at h1 h2 ⊢;omega)
   have HCALL:Hd (∀W,Cf wr W->Calls Tryz.prog f (fa++#[zBw x]++lb) W (uJ C St w (L.take (k+1)) (Z++putL L.length++(L.take (k+1)).flatMap enc))):=jh (λW hc=>by
    have h1:=uJ.puts HS.o HP.o.2.1 ((HS.o.get HP.o.2.1).fresh hc);refine (HW.o W (L.take k) _ x d h1.2.1 (by rw[Ax1];omega) HOX.o (HR.o.chg HRX.o hc iF) (HOK.o d (Az2 HX.o)) HLE.o).mono ?_;intro e w' h2;have h3:=(HP.o.trans h1).trans h2;rw[zU HX.o,Ay1,HX.o,<-Az5];exact h3)
   have hcs:=hcells;clear hx hr hox HLW
   first|(have c0:=hcells _ rfl)|(obtain⟨c0,c1,c2⟩:=hcells _ _ _ rfl)
   clear hcells hcs
   try unfold slV at c1
   try unfold slV at c2
   go_wp2_with fail
   refine (HCALL.o _ (by first|exact Chg.refl _ _|exact (Chg.refl _ _).alloc _)).mono ?_;rintro e w2 ⟨rfl,h2⟩;have HP2:Hd (uJ C St w (L.take (k+1)) (Z++putL L.length++(L.take (k+1)).flatMap enc) (.returned (.tuple #[])) w2):=jh ⟨rfl,h2⟩;clear h2 c0 HCALL;go_wp2;go_roundw
   case rel=>exact⟨k+1,oM,by go_num,HP2.o⟩
   case measure=>simp[intOf];omega
  .obtain rfl:k=L.length:=oM
   have HF:Hd (uJ C St w L (Z++zS enc L) (.returned (.tuple #[])) wr):=jh (by
    have:=HP.o;rw[Ax6 (Ay _),Az5]at this;exact this)
   go_wp2;go_end0
   exact HF.o
theorem zTv {δ:Type}{R:Rp (Int×Sl×Sl) δ}(hR:Good R) {pg B:Nat}{C:World->Nat->Prop}{St:World->List δ->List Int->Prop}(hS:SideW pg B C St) (f:FuncId) (fa lb:Array Value) (enc:δ->List Int) (ok:δ->Prop) (eg:∀args w,(callFunc f args).run Tryz.prog w=.ok (.enter f args) w)
  (hW:aN f fa lb enc ok lsE zCq R B C St) (L:List δ) (a:Option Addr) (c:Nat) (w:World) (Z:List Int) (h:St w [] Z) (hL:zJ lsE R w (·<B) (a,L.length,c) L) (hok:∀d∈L,ok d) (hn:L.length<=1000000000) (hl:(Z++zS enc L).length<=1000000000) :
  Calls Tryz.prog 70 #[.pointer (some ⟨pg,0,none⟩),.slice a L.length c,.func (.func f) fa lb] w (uJ C St w L (Z++zS enc L)):=by
 have HW:=jh hW;have HR:=jh hR;have HS:=jh hS;have HST:=jh h;have HL:=jh hL;have HOK:=jh hok;have HLEN:=jh hl;have HN:=jh (uA (L.length:Int) w (hS.get h) oM (by rw[Az0]at hl;omega));have HPL:Hd (zN (L.length:Int)=putL L.length):=jh (by unfold zN;rw[Ay6]);clear hW hR hS h hL hok hl;go_enter Tryz.func70,Tryz.ntmps70
 go_wp2_with fail
 refine HN.o.mono ?_;rintro e w1 ⟨rfl,hp⟩;rw[HPL.o]at hp;have HP0:=jh (uJ.puts HS.o HST.o hp);clear hp HN;go_wp2
 go_loopw [14] (λq wr=>∃k:Nat,k<=L.length/\q=.int .i64 k/\uJ C St w (L.take k) (Z++putL L.length++(L.take k).flatMap enc) (.returned (.tuple #[])) wr) (λq _=>L.length-(intOf q).toNat)
 case atStart=>exact⟨0,oM,rfl,by simpa using HP0.o⟩
 case round =>
  clear HP0;obtain⟨k,hk,rfl,hp⟩:=hrel;have HP:=jh hp;clear hp;by_cases hkl:k<L.length
  .have b9:decide ((k:Int)<(L.length:Int))=true:=by simp;omega
   have HLW:=jh ((zJ.good HR.o).chg HL.o HP.o.2.2.1 (λg hg hC=>by have:=HS.o.low HST.o hC;omega));obtain⟨x,d,g,o,hx,hr,rfl,-,-,hox,hcells⟩:=HLW.o.get3 (f:=zGy) rfl hkl rfl;have HX:=jh hx;have HRX:=jh hr;have HOX:=jh hox;have HLE:Hd ((Z++putL L.length++(L.take k).flatMap enc++enc d).length<=1000000000):=jh (by
    have h1:=HLEN.o;have h2:=yU (enc:=enc) (L:=L) (k+1);rw[zU HX.o]at h2;unfold zS at h1;simp only[Az0]at h1 h2 ⊢;omega)
   have HCALL:Hd (∀W,Cf wr W->Calls Tryz.prog f (fa++#[zCq x]++lb) W (uJ C St w (L.take (k+1)) (Z++putL L.length++(L.take (k+1)).flatMap enc))):=jh (λW hc=>by
    have h1:=uJ.puts HS.o HP.o.2.1 ((HS.o.get HP.o.2.1).fresh hc);refine (HW.o W (L.take k) _ x d h1.2.1 (by rw[Ax1];omega) HOX.o (HR.o.chg HRX.o hc iF) (HOK.o d (Az2 HX.o)) HLE.o).mono ?_;intro e w' h2;have h3:=(HP.o.trans h1).trans h2;rw[zU HX.o,Ay1,HX.o,<-Az5];exact h3)
   have hcs:=hcells;clear hx hr hox HLW
   first|(have c0:=hcells _ rfl)|(obtain⟨c0,c1,c2⟩:=hcells _ _ _ rfl)
   clear hcells hcs
   try unfold slV at c1
   try unfold slV at c2
   go_wp2_with fail
   refine (HCALL.o _ (by first|exact Chg.refl _ _|exact (Chg.refl _ _).alloc _)).mono ?_;rintro e w2 ⟨rfl,h2⟩;have HP2:Hd (uJ C St w (L.take (k+1)) (Z++putL L.length++(L.take (k+1)).flatMap enc) (.returned (.tuple #[])) w2):=jh ⟨rfl,h2⟩;clear h2 c0 HCALL;go_wp2;go_roundw
   case rel=>exact⟨k+1,oM,by go_num,HP2.o⟩
   case measure=>simp[intOf];omega
  .obtain rfl:k=L.length:=oM
   have HF:Hd (uJ C St w L (Z++zS enc L) (.returned (.tuple #[])) wr):=jh (by
    have:=HP.o;rw[Ax6 (Ay _),Az5]at this;exact this)
   go_wp2;go_end0
   exact HF.o
end Go.Proofs.YtgnpmceimpjheaaGreat
namespace Go.Proofs.YtgnpmceimpjheaaGreat
open Go.RowKit
abbrev U32 (z:Int):Prop:=0<=z/\z<4294967296
def S0w (δ:Type) (pg B:Nat):World->List δ->List Int->Prop:=λw _ Z=>PSt pg B w Z
theorem zQ7 (δ:Type) (pg B:Nat):SideW (δ:=δ) pg B (Cp pg) (S0w δ pg B) where
 get:=λh=>h
 sub:=λh=>h
 low:=λh hk=>(PSt.low h hk).1
 move:=λ_ hp=>⟨hp.st,hp.nx⟩
theorem uJ.puts0 {δ:Type}{pg B:Nat}{w w':World}{L:List δ}{Z:List Int}{e:Ending}(h:uJ (Cp pg) (S0w δ pg B) w L Z e w'):e=.returned (.tuple #[])/\Puts pg B w w' Z:=⟨h.1,h.2.1,h.2.2.1,h.2.2.2⟩
theorem Puts.keep {pg B:Nat}{w w':World}{Z:List Int}(hp:Puts pg B w w' Z) {b j:Nat}(hb:¬Cp pg w b) {u:Value}(hc:w.cell? ⟨b,j,none⟩=some u):w'.cell? ⟨b,j,none⟩=some u:=hp.chg.cellS hc hb
theorem Puts.out {pg B:Nat}{w w':World}{Z:List Int}(hp:Puts pg B w w' Z) {b:Nat}(hl:b<w.heap.size) (hb:¬Cp pg w b):¬Cp pg w' b:=λe=>(hp.nx b e).elim hb (λh=>oM)
theorem PSt.new {pg B:Nat}{w:World}{Z:List Int}(h:PSt pg B w Z) {k:Nat}(hk:w.heap.size<=k):¬Cp pg w k:=λe=>by have:=(h.low e).2;omega
structure PSb (pg B bx:Nat) (w:World) (Z:List Int):Prop where
 g:PSt pg B w Z
 c:w.cell? ⟨bx,0,none⟩=some (.pointer (some ⟨pg,0,none⟩))
 n:¬Cp pg w bx
theorem PSb.puts {pg B bx:Nat}{w w':World}{Z Z':List Int}(h:PSb pg B bx w Z) (hp:Puts pg B w w' Z'):PSb pg B bx w' Z':=⟨hp.st,hp.keep h.n h.c,hp.out (Az6 _ _ h.c) h.n⟩
def Sbw (δ:Type) (pg B bx:Nat):World->List δ->List Int->Prop:=λw _ Z=>PSb pg B bx w Z
theorem zQ6 (δ:Type) (pg B bx:Nat):SideW (δ:=δ) pg B (Cp pg) (Sbw δ pg B bx) where
 get:=λh=>h.g
 sub:=λh=>h
 low:=λh hk=>(PSt.low h.g hk).1
 move:=λh hp=>⟨h.puts hp,hp.nx⟩
theorem PSb.post {δ:Type}{pg B bx:Nat}{w w':World}{Z Z':List Int}{L:List δ}{e:Ending}(h:PSb pg B bx w Z) (hp:e=.returned (.tuple #[])/\Puts pg B w w' Z'):uJ (Cp pg) (Sbw δ pg B bx) w L Z' e w':=⟨hp.1,h.puts hp.2,hp.2.chg,hp.2.nx⟩
theorem uJ.putsB {δ:Type}{pg B bx:Nat}{w w':World}{L:List δ}{Z:List Int}{e:Ending}(h:uJ (Cp pg) (Sbw δ pg B bx) w L Z e w'):e=.returned (.tuple #[])/\Puts pg B w w' Z:=⟨h.1,h.2.1.g,h.2.2.1,h.2.2.2⟩
theorem zJz (pg B:Nat):aN 27 #[.pointer (some ⟨pg,0,none⟩)] #[] zN U32 intE zCt eqR B (Cp pg) (S0w Int pg B):=by
 intro w acc Z x d h _ hx hr hok hl;obtain rfl:x=d:=hr;show Calls Tryz.prog 27 #[.pointer (some ⟨pg,0,none⟩),.int .i64 x] w _;refine (uA x w h hok (by rw[Az0]at hl;omega)).mono ?_;rintro e w' ⟨rfl,hp⟩;exact⟨rfl,hp.st,hp.chg,hp.nx⟩
theorem zHb (pg B:Nat):aN 26 #[.pointer (some ⟨pg,0,none⟩)] #[] vG (λs=>s.size<=1000000) strE dG eqR B (Cp pg) (S0w Str pg B):=by
 intro w acc Z x d h _ hx hr hok hl;obtain rfl:x=d:=hr;show Calls Tryz.prog 26 #[.pointer (some ⟨pg,0,none⟩),.string x] w _;refine (zGe x w h hok (by rw[Az0]at hl;omega)).mono ?_;rintro e w' ⟨rfl,hp⟩;exact⟨rfl,hp.st,hp.chg,hp.nx⟩
theorem dU {pg B:Nat}{Z:List Int}(L:List Int) (a:Option Addr) (c:Nat) (w:World) (h:PSt pg B w Z) (hL:intE.InS w (·<B) (a,L.length,c) L) (hok:∀z∈L,U32 z) (hn:L.length<=1000000000) (hl:(Z++zS zN L).length<=1000000000) :
  Calls Tryz.prog 69 #[.pointer (some ⟨pg,0,none⟩),.slice a L.length c,.func (.func 27) #[.pointer (some ⟨pg,0,none⟩)] #[]] w λe w'=>e=.returned (.tuple #[])/\Puts pg B w w' (Z++zS zN L) :=
 (zSy eqR.good (zQ7 Int pg B) _ _ _ zN U32 (enters_of Tryz.func27 kR rfl) (zJz pg B) L a c w Z h (zJ.of hL) hok hn hl).mono λ_ _ h=>h.puts0
theorem zKg {pg B:Nat}{Z:List Int}(L:List Str) (a:Option Addr) (c:Nat) (w:World) (h:PSt pg B w Z) (hL:strE.InS w (·<B) (a,L.length,c) L) (hok:∀s∈L,s.size<=1000000) (hn:L.length<=1000000000) (hl:(Z++zS vG L).length<=1000000000) :
  Calls Tryz.prog 25 #[.pointer (some ⟨pg,0,none⟩),.slice a L.length c,.func (.func 26) #[.pointer (some ⟨pg,0,none⟩)] #[]] w λe w'=>e=.returned (.tuple #[])/\Puts pg B w w' (Z++zS vG L) :=
 (zSx eqR.good (zQ7 Str pg B) _ _ _ vG (λs=>s.size<=1000000) (enters_of Tryz.func26 kR rfl) (zHb pg B) L a c w Z h (zJ.of hL) hok hn hl).mono λ_ _ h=>h.puts0
def okE (e:qS):Prop:=(0<=e.1/\e.1<=255)/\U32 e.2.1/\U32 e.2.2
theorem zMk {pg B bx:Nat}{Z:List Int}(e:qS) (w:World) (h:PSb pg B bx w Z) (hok:okE e) (hl:(Z++pG e).length<=1000000000) :
  Calls Tryz.prog 68 #[pN e,.pointer (some ⟨bx,0,none⟩)] w λe' w'=>e'=.returned (.tuple #[])/\Puts pg B w w' (Z++pG e):=by
 obtain⟨k,x,t⟩:=e;obtain⟨o1,o2,o3⟩:=hok;simp only at o1 o2 o3;have hl3:Z.length<=1000000000/\(Z++zN k).length<=1000000000/\((Z++zN k)++zN x).length<=1000000000:=by
  simp only[pG,Az0]at hl ⊢;omega
 have HL:=jh hl3;obtain⟨w0,hw0⟩:∃W,W=w.alloc (.cells #[.int .u8 k,.int .i64 x,.int .i64 t] 71):=⟨_,rfl⟩;have hP0:Puts pg B w w0 Z:=h.g.fresh (by rw[hw0];exact (Chg.refl _ _).alloc _);have HP0:=jh hP0;have hB0:=h.puts hP0;have hn:¬Cp pg w0 w.heap.size:=λe=>by
  have h1:=h.g.chg (S:=λ_=>False) (w':=w0) (by rw[hw0];exact (Chg.refl _ _).alloc _) (λ_ h=>h.elim);exact h.g.new (Ay _) (h1.2 _ e)
 have HK:Hd (∀W Z',Puts pg B w0 W Z'->W.cell? ⟨bx,0,none⟩=some (.pointer (some ⟨pg,0,none⟩))/\W.cell? ⟨w.heap.size,0,none⟩=some (.int .u8 k)/\W.cell? ⟨w.heap.size,1,none⟩=some (.int .i64 x)/\W.cell? ⟨w.heap.size,2,none⟩=some (.int .i64 t)):=jh (λW Z' hp =>
  ⟨hp.keep hB0.n hB0.c,hp.keep hn (by rw[hw0,Az7];rfl),hp.keep hn (by rw[hw0,Az7];rfl),hp.keep hn (by rw[hw0,Az7];rfl)⟩)
 have hwk:IntKind.i64.wrap k=k:=by rw[IntKind.wrap_i64];omega
 have HZ:=jh hB0.g;have HO1:Hd (U32 k):=jh ⟨oM,oM⟩;have HO2:=jh o2;have HO3:=jh o3;clear h hP0 hB0 hn hl hl3 o2 o3;show Calls Tryz.prog 68 #[.agg #[.int .u8 k,.int .i64 x,.int .i64 t],.pointer (some ⟨bx,0,none⟩)] w _;go_enter Tryz.func68,Tryz.ntmps68
 go_upto_region 1 with (fail)
 rw[<-hw0];clear hw0;obtain⟨q0,q1,q2,q3⟩:=HK.o w0 Z HZ.o.refl;go_wp2_with fail
 refine (uA k w0 HZ.o HO1.o HL.o.1).mono ?_;rintro e1 w1 ⟨rfl,hp1⟩;have HP1:=jh hp1;clear hp1 q0 q1 q2 q3;obtain⟨q0,q1,q2,q3⟩:=HK.o w1 _ HP1.o;go_wp2_with fail
 refine (uA x w1 HP1.o.st HO2.o HL.o.2.1).mono ?_;rintro e2 w2 ⟨rfl,hp2⟩;have HP2:=jh (HP1.o.trans hp2);clear hp2 q0 q1 q2 q3;obtain⟨q0,q1,q2,q3⟩:=HK.o w2 _ HP2.o;go_wp2_with fail
 refine (uA t w2 HP2.o.st HO3.o HL.o.2.2).mono ?_;rintro e3 w3 ⟨rfl,hp3⟩;have HP3:=jh (HP0.o.trans (HP2.o.trans hp3));clear hp3 q0 q1 q2 q3;go_wp2;go_end0
 refine⟨rfl,?_⟩;have:=HP3.o;rw[Az5,Az5]at this;exact this
theorem zHd (pg B bx:Nat):aN 68 #[] #[.pointer (some ⟨bx,0,none⟩)] pG okE qC pN eqR B (Cp pg) (Sbw qS pg B bx):=by
 intro w acc Z x d h _ hx hr hok hl;obtain rfl:x=d:=hr;show Calls Tryz.prog 68 #[pN x,.pointer (some ⟨bx,0,none⟩)] w _;exact (zMk x w h hok hl).mono λ_ _ hp=>PSb.post h hp
def okS (s:StD):Prop:=U32 s.1/\(s.2.1.length<=1000000000/\∀e∈s.2.1,okE e)/\s.2.2.length<=1000000000/\∀z∈s.2.2,U32 z
theorem zKh {pg B bx:Nat}{Z:List Int}(y:Int×Sl×Sl) (s:StD) (w:World) (h:PSb pg B bx w Z) (hr:stR w (·<B) y s) (hok:okS s) (hl:(Z++vQ s).length<=1000000000) :
  Calls Tryz.prog 66 #[zBw y,.pointer (some ⟨bx,0,none⟩)] w λe' w'=>e'=.returned (.tuple #[])/\Puts pg B w w' (Z++vQ s):=by
 obtain⟨k,es,ds⟩:=s;obtain⟨yk,⟨ea,en,ec⟩,⟨da,dn,dc⟩⟩:=y;obtain⟨r1,r2,r3,r4⟩:=hr;simp only at r1 r2 r3 r4;subst r1;obtain⟨rfl,-⟩:=r3.len;obtain⟨rfl,-⟩:=r4.len;obtain⟨o1,⟨o2,o3⟩,o4,o5⟩:=hok;simp only at o1 o2 o3 o4 o5;have HL:Hd (Z.length<=1000000000/\((Z++zN yk)++zS pG es).length<=1000000000/\(((Z++zN yk)++zS pG es)++zS zN ds).length<=1000000000):=jh (by
  simp only[vQ,Az0]at hl ⊢;omega)
 obtain⟨w0,hw0⟩:∃W,W=w.alloc (.cells #[.int .i64 yk,.slice ea es.length ec,.slice da ds.length dc] 74):=⟨_,rfl⟩;have hP0:Puts pg B w w0 Z:=h.g.fresh (by rw[hw0];exact (Chg.refl _ _).alloc _);have HP0:=jh hP0;have hB0:=h.puts hP0;have HB0:=jh hB0;have hn:¬Cp pg w0 w.heap.size:=λe=>by
  have h1:=h.g.chg (S:=λ_=>False) (w':=w0) (by rw[hw0];exact (Chg.refl _ _).alloc _) (λ_ h=>h.elim);exact h.g.new (Ay _) (h1.2 _ e)
 have HK:Hd (∀W Z',Puts pg B w0 W Z'->W.cell? ⟨bx,0,none⟩=some (.pointer (some ⟨pg,0,none⟩))/\W.cell? ⟨w.heap.size,0,none⟩=some (.int .i64 yk)/\W.cell? ⟨w.heap.size,1,none⟩=some (.slice ea es.length ec)/\W.cell? ⟨w.heap.size,2,none⟩=some (.slice da ds.length dc)):=jh (λW Z' hp =>
  ⟨hp.keep hB0.n hB0.c,hp.keep hn (by rw[hw0,Az7];rfl),hp.keep hn (by rw[hw0,Az7];rfl),hp.keep hn (by rw[hw0,Az7];rfl)⟩)
 have HES:Hd (∀W Z',Puts pg B w0 W Z'->qC.InS W (·<B) (ea,es.length,ec) es/\intE.InS W (·<B) (da,ds.length,dc) ds):=jh (λW Z' hp=>by
  have hc:=(HP0.o.below h.g).trans ((hp.below HB0.o.g));exact⟨r3.chg hc (λg hg e=>oM),r4.chg hc (λg hg e=>oM)⟩)
 have hmf:=mkfn;have eg:=enters_of Tryz.func68 kR rfl;have HZ:=jh hB0.g;have HO1:=jh o1;have HO3:=jh o3;have HO5:=jh o5;clear h hP0 hB0 hn hl r2 r3 r4 o1 o3 o5;show Calls Tryz.prog 66 #[.agg #[.int .i64 yk,.slice ea es.length ec,.slice da ds.length dc],.pointer (some ⟨bx,0,none⟩)] w _;go_enter Tryz.func66,Tryz.ntmps66
 go_upto_region 1 with (fail)
 rw[<-hw0];clear hw0;obtain⟨q0,q1,q2,q3⟩:=HK.o w0 Z HZ.o.refl;go_wp2_with fail
 refine (uA yk w0 HZ.o HO1.o HL.o.1).mono ?_;rintro e1 w1 ⟨rfl,hp1⟩;have HP1:=jh hp1;clear hp1 q0 q1 q2 q3;obtain⟨q0,q1,q2,q3⟩:=HK.o w1 _ HP1.o;go_wp2_with fail
 refine (zRs eqR.good (zQ6 qS pg B bx) _ _ _ pG okE eg (zHd pg B bx) es ea ec w1 _ (HB0.o.puts HP1.o) (zJ.of (HES.o w1 _ HP1.o).1) HO3.o o2 HL.o.2.1).mono ?_;intro e2 w2 h2;obtain⟨rfl,hp2⟩:=h2.putsB;have HP2:=jh (HP1.o.trans hp2);clear hp2 h2 q0 q1 q2 q3;obtain⟨q0,q1,q2,q3⟩:=HK.o w2 _ HP2.o;go_wp2_with fail
 refine (dU ds da dc w2 HP2.o.st (HES.o w2 _ HP2.o).2 HO5.o o4 HL.o.2.2).mono ?_;rintro e3 w3 ⟨rfl,hp3⟩;have HP3:=jh (HP0.o.trans (HP2.o.trans hp3));clear hp3 q0 q1 q2 q3;go_wp2;go_end0
 refine⟨rfl,?_⟩;have:=HP3.o;rw[Az5,Az5]at this;exact this
theorem zFz (pg B bx:Nat):aN 66 #[] #[.pointer (some ⟨bx,0,none⟩)] vQ okS stE zBw stR B (Cp pg) (Sbw StD pg B bx):=by
 intro w acc Z x d h _ hx hr hok hl;show Calls Tryz.prog 66 #[zBw x,.pointer (some ⟨bx,0,none⟩)] w _;exact (zKh x d w h hr hok hl).mono λ_ _ hp=>PSb.post h hp
theorem gG (LL:List (List Int)):∀r∈(yC LL).1,∃l∈LL,r=rowL l:=by
 have key:∀(LL:List (List Int)) (t:List RowD×List Int) (r:RowD),r∈(LL.foldl (λt l=>addL t (rowL l)) t).1->r∈t.1\/∃l∈LL,r=rowL l:=by
  intro LL
  induction LL with
  | nil=>intro t r h;exact .inl h
  | cons l LL ih =>
   intro t r h;rcases ih (addL t (rowL l)) r h with h|⟨l',h1,h2⟩
   .unfold addL at h
    split at h
    .exact .inl h
    .rcases Av2.1 h with h|h
     .exact .inl h
     .exact .inr ⟨l,sI,Ay3.1 h⟩
   .exact .inr ⟨l',by simp[h1],h2⟩
 intro r h;rcases key LL ([],[]) r h with h|h
 .cases h
 .exact h
theorem dY:∀(X Y:List Int) (next m:Int),rA next m (X++Y)=(rA next m X).bind (λn=>rA n m Y)
 | [],Y,next,m=>rfl
 | x :: X,Y,next,m=>by
  simp only[Au9,rA]
  split
  .rfl
  .exact dY X Y _ m
def Made (t:List RowD×List Int):Prop:=t.1.Nodup/\∀m:Int,(t.1.length:Int)<=m->rA 0 m t.2=some (t.1.length:Int)
theorem Made.add {t:List RowD×List Int}(h:Made t) (r:RowD):Made (addL t r):=by
 obtain⟨R,O⟩:=t;obtain⟨h1,h2⟩:=h;unfold addL;by_cases hh:gQ r R=true
 .rw[if_pos hh]
  refine⟨h1,λm hm=>?_⟩;show rA 0 m (O++[idxV (vY r) R])=some (R.length:Int);rw[dY,h2 m hm];rcases tE (vY r) R with ⟨k,x,hk,-,h3,-,-⟩|⟨-,-,h5⟩
  .have hkl:=(Az1.1 hk).1
   rw[h3];simp only at hm;show rA (R.length:Int) m [(k:Int)]=_;simp only[rA];rw[if_neg oM,if_neg oM]
  .have:R.any (vY r)=true:=hh
   rw[h5]at this;cases this
 .rw[if_neg hh]
  refine⟨?_,λm hm=>?_⟩
  .show (R++[r]).Nodup
   rw[List.nodup_append];refine⟨h1,sI,λa ha b hb=>?_⟩;simp at hb
   subst hb;intro e;subst e;exact hh (mU.2 ha)
  .show rA 0 m (O++[(R.length:Int)])=some ((R++[r]).length:Int)
   have hm':(R.length:Int)+1<=m:=(by simpa using hm);rw[dY,h2 m (by show (R.length:Int)<=m;omega)];show rA (R.length:Int) m [(R.length:Int)]=_;simp only[rA];rw[if_neg oM];simp
theorem made (LL:List (List Int)):Made (yC LL):=by
 have key:∀(LL:List (List Int)) (t:List RowD×List Int),Made t->Made (LL.foldl (λt l=>addL t (rowL l)) t):=by
  intro LL
  induction LL with
  | nil=>intro t h;exact h
  | cons l LL ih=>intro t h;exact ih _ (h.add _)
 exact key LL ([],[]) ⟨sI,λm hm=>rfl⟩
theorem zAt {W:Int}{LL:List (List Int)}(h0:0<=W) (h1:W<=65536) (hn:LL.length<=65536) (h:uG W LL=true):mayL (W,(yC LL).1,(yC LL).2)=true:=by
 obtain⟨m1,m2⟩:=made LL;have hlen:=(tC LL).2;rw[zCn ⟨h0,h1,oM⟩ (λr hr=>?_) m1,m2 _ (Int.le_refl _)]
 .simp
 .obtain⟨l,hl,rfl⟩:=gG LL r hr
  have:=Ax5.1 h l hl;simp only[pA,Ay2,Ax8,decide_eq_true_eq]at this;obtain⟨g1,g2⟩:=this;rw[<-g2,Ay6];exact zEe l (qW.1 g1)
def xW:List Int->Int->Int->Bool
 | [],_,_=>true
 | n :: l,least,most=>if n<least\/most<=n then false else xW l (n+1) most
def cW (states:Int) (e:Int×Int):Bool:=decide (e.2<0) || decide (states<=e.2)
def zDh (k:Int) (na ne:Nat):Bool :=
 if k=0 then decide (na=0) else if k=1 then decide (na=1) && decide (ne=0) else if k=3 then decide (1<na) && decide (ne=0) else decide (k=2) && decide (na=0) && decide (ne=0)
def sU (states alts tokens:Int) (s:LsD):Bool :=
 !s.2.2.any (cW states) && xW s.2.1 0 alts && xW (s.2.2.map (·.1)) (-1) tokens && zDh s.1 s.2.1.length s.2.2.length
def xN (A:List LsD) (alts tokens:Int):Bool:=decide (1<=A.length) && decide (A.length<=4096) && !A.any (λs=>!sU A.length alts tokens s)
theorem zD0 (l:List Int) (least most:Int) (a:Option Addr) (c:Nat) (S:Nat->Prop) (w:World) (h:intE.InS w S (a,l.length,c) l) (hl:l.length<=1000000000) (h1:-1<=least/\least<=1000000001) (h2:most<=1000000000) (h3:-1000000000<=most) :
  Calls Tryz.prog 138 #[.slice a l.length c,.int .i64 least,.int .i64 most] w λe w'=>e=.returned (.bool (xW l least most))/\w'=w:=by
 have HL:=jh h;clear h;go_enter Tryz.func138,Tryz.ntmps138
 go_wp2
 go_loopw [1,11] (λls q wr=>∃(k:Nat) (m:Int),k<=l.length/\q=.int .i64 k/\ls=.int .i64 m/\-1<=m/\m<=1000000001/\xW (l.drop k) m most=xW l least most/\wr=w) (λ_ q _=>l.length-(intOf q).toNat)
 case atStart=>exact⟨0,least,oM,rfl,rfl,h1.1,h1.2,rfl,rfl⟩
 case round =>
  obtain⟨k,m,hk,rfl,rfl,hm1,hm2,hr,rfl⟩:=hrel;have HR:=jh hr;clear hr h1;by_cases hkl:k<l.length
  .have b9:decide ((k:Int)<(l.length:Int))=true:=by simp;omega
   obtain⟨x,g,o,hx,rfl,c0,x1,x2,-,-⟩:=HL.o.getI hkl;have HD:Hd (l.drop k=x :: l.drop (k+1)):=jh (by
    rw[Au2 hkl];rw[Az hkl]at hx;rw[Az3 hx])
   rw[HD.o]at HR;clear hx;by_cases c1:x<m
   .have d1:decide (x<m)=true:=decide_eq_true c1
    have HF:Hd (xW l least most=false):=jh (by rw[<-HR.o];simp[xW,c1]);go_wp2;go_ret
    exact⟨by rw[HF.o];rfl,rfl⟩
   .have d1:decide (x<m)=false:=decide_eq_false c1
    by_cases c2:most<=x
    .have d2:decide (most<=x)=true:=decide_eq_true c2
     have HF:Hd (xW l least most=false):=jh (by rw[<-HR.o];simp[xW,c2]);go_wp2;go_ret
     exact⟨by rw[HF.o];rfl,rfl⟩
    .have d2:decide (most<=x)=false:=decide_eq_false c2
     have HN:Hd (xW (l.drop (k+1)) (x+1) most=xW l least most):=jh (by rw[<-HR.o];simp[xW,c1,c2]);go_wp2;go_roundw
     case rel=>exact⟨k+1,_,oM,by go_num,rfl,oM,oM,HN.o,by trivial⟩
     case measure=>simp[intOf];omega
  .obtain rfl:k=l.length:=oM
   have b9:decide ((l.length:Int)<(l.length:Int))=false:=sI;have HF:Hd (xW l least most=true):=jh (by rw[<-HR.o,List.drop_length];rfl);go_wp2;go_ret
   exact⟨by rw[HF.o];rfl,rfl⟩
theorem zD9 {k:Int}(h:U8 k):k=0\/k=1\/k=2\/k=3\/3<k:=by
 have:=h.1;omega
theorem zKv (d:LsD) (aa ea:Option Addr) (ac ec:Nat) (states alts tokens:Nat) (S:Nat->Prop) (w:World) (hk:U8 d.1) (ha:intE.InS w S (aa,d.2.1.length,ac) d.2.1) (he:rY.InS w S (ea,d.2.2.length,ec) d.2.2) (hal:d.2.1.length<=1000000000) (hel:d.2.2.length<=1000000000)
  (h1:states<=1000000000) (h2:alts<=1000000000) (h3:tokens<=1000000000) :
  Calls Tryz.prog 96 #[.agg #[.int .u8 d.1,.slice aa d.2.1.length ac,.slice ea d.2.2.length ec],.int .i64 states,.int .i64 alts,.int .i64 tokens] w λe w'=>e=.returned (.bool (sU states alts tokens d))/\Cf w w':=by
 obtain⟨kd,al,ed⟩:=d;simp only at hk ha he hal hel ⊢;have HA:=jh ha;have HE:=jh (zJ.of he);have HCL:Hd (∀wx,Cf (w.alloc (.cells #[.int .u8 kd,.slice aa al.length ac,.slice ea ed.length ec] 67)) wx->wx.cell? ⟨w.heap.size,0,none⟩=some (.int .u8 kd)/\wx.cell? ⟨w.heap.size,1,none⟩=some (.slice aa al.length ac)/\wx.cell? ⟨w.heap.size,2,none⟩=some (.slice ea ed.length ec)) :=
  jh λwx hc=>⟨hc.cellS sI iD,hc.cellS sI iD,hc.cellS sI iD⟩
 clear ha he;go_enter Tryz.func96,Tryz.ntmps96
 go_wp2_with (at_make;refine intE.wpList_make rfl _ _ _ rfl rfl _ _ _ _ ed.length ed.length rfl rfl rfl oM oM oM ?_;intro w1 HR1 HC1;obtain⟨f0,f1,f2⟩:=HCL.o w1 HC1.o)
 clear f0 f1 f2;obtain⟨bb,hbb⟩:∃b,b=w.heap.size+1:=⟨_,rfl⟩;have HBB:Hd (bb=w.heap.size+1):=jh hbb;have HC01:Hd (Cf w w1):=jh (((Chg.refl _ w).alloc _).trans HC1.o);have HO1:Hd (intE.Own w1 bb (.slice (some ⟨bb,0,none⟩) ed.length ed.length) (List.replicate ed.length 0)):=jh (by
  have hr:=HR1.o;rw[show (w.alloc (.cells #[.int .u8 kd,.slice aa al.length ac,.slice ea ed.length ec] 67)).heap.size=bb by rw[hbb];simp]at hr;exact .inr ⟨bb,List.replicate ed.length 0,sI,Ay _,hr,Aw6 _,by simp[maxLen];omega⟩)
 rw[<-hbb];clear hbb HR1
 go_loopw [19] (λq wr=>∃(k:Nat) (Y:List Int),k<=ed.length/\q=.int .i64 k/\Y.length=ed.length/\(∀i,i<k->Y[i]?=(ed.map (·.1))[i]?)/\(∀(j:Nat) e,j<k->ed[j]?=some e->cW states e=false)/\intE.Own wr bb (.slice (some ⟨bb,0,none⟩) ed.length ed.length) Y/\Chg (·=bb) w1 wr) (λq _=>ed.length-(intOf q).toNat)
 case atStart=>exact⟨0,_,oM,rfl,sI,λi hi=>absurd hi (Ax _),λj e hj=>absurd hj (Ax _),HO1.o,Chg.refl _ _⟩
 case round =>
  clear HO1;obtain⟨k,Y,hkl0,rfl,hyl,hye,hnb,hyo,hcw⟩:=hrel;have HYL:=jh hyl;have HYE:=jh hye;have HNB:=jh hnb;have HYO:=jh hyo;have HCW:=jh hcw;have HCA:Hd (Cf w wr):=jh (HC01.o.trans2 hcw (λg hg e=>by have:=HBB.o;omega));have HFR:Hd (wr.cell? ⟨w.heap.size,0,none⟩=some (.int .u8 kd)/\wr.cell? ⟨w.heap.size,1,none⟩=some (.slice aa al.length ac)/\wr.cell? ⟨w.heap.size,2,none⟩=some (.slice ea ed.length ec)):=jh (by
   obtain⟨f0,f1,f2⟩:=HCL.o w1 HC1.o;have hb:¬w.heap.size=bb:=(by have:=HBB.o;omega);exact⟨hcw.cellS f0 hb,hcw.cellS f1 hb,hcw.cellS f2 hb⟩)
  clear hyl hye hnb hyo hcw;by_cases hkl:k<ed.length
  .have b9:decide ((k:Int)<(ed.length:Int))=true:=by simp;omega
   obtain⟨x,d,g,o,hd,hx,rfl,-,hgl,hok,hcells⟩:=((zJ.good eqR.good).chg HE.o HCA.o iF).get2 (f:=uW) rfl hkl rfl;obtain rfl:x=d:=hx;obtain⟨c0,c1⟩:=hcells _ _ rfl;obtain⟨tk,tv⟩:=x;simp only at c0 c1;have HD:=jh hd;obtain⟨⟨ok1,ok2⟩,ok3,ok4⟩:=hok;simp only at ok1 ok2 ok3 ok4;have HY1:Hd (I.Byte tk):=jh ⟨ok1,ok2⟩;obtain⟨w2,hw2⟩:∃W,W=wr.alloc (.cells #[.int .i64 tk,.int .i64 tv] 149):=⟨_,rfl⟩;have HC2:Hd (Cf wr w2):=jh (by rw[hw2];exact (Chg.refl _ _).alloc _);have HO2:=jh (HYO.o.chg HC2.o (λ_ _ _ h=>h));obtain⟨g',x',-,-,hg',-,e0,ez,-⟩:=sL HO2.o (k:=k) (by rw[HYL.o];exact hkl);injection hg' with hg';injection hg' with hg';subst hg';have HOS:=jh (zBd HO2.o (k:=k) (by rw[HYL.o];exact hkl) HY1.o);have hsc:=zA w2 bb k (.int .i64 tk);have q0:(w2.setCell ⟨bb,k,none⟩ (.int .i64 tk)).cell? ⟨wr.heap.size,1,none⟩=some (.int .i64 tv):=by
    refine hsc.cellS (p:=⟨wr.heap.size,1,none⟩) ?_ (by have:=HYO.o.blk (g:=bb) rfl;show ¬wr.heap.size=bb;omega);rw[hw2,Az7];rfl
   have HCW3:Hd (Chg (·=bb) w1 (w2.setCell ⟨bb,k,none⟩ (.int .i64 tk))):=jh ((HCW.o.trans HC2.o.any).trans hsc);have HYE3:Hd (∀i,i<k+1->(Y.set k tk)[i]?=(ed.map (·.1))[i]?):=jh (λi hi=>by
    by_cases hik:i=k
    .subst hik
     rw[Av5 (by rw[HYL.o];exact hkl),Aw,HD.o];rfl
    .rw[Au3 (Ne.symm hik)]
     exact HYE.o i oM)
   have hbl:bb<wr.heap.size:=(HYO.o.blk (g:=bb) rfl).2;have HT2:Hd (w2.cell? ⟨wr.heap.size,0,none⟩=some (.int .i64 tk)):=jh (by rw[hw2,Az7];rfl);clear hd hcells hsc;go_upto_region 5 with (fail)
   rw[<-hw2];clear hw2 c0 c1;have q1:w2.cell? ⟨wr.heap.size,0,none⟩=some (.int .i64 tk):=HT2.o;have HCF:Hd (Cf w (w2.setCell ⟨bb,k,none⟩ (.int .i64 tk))):=jh (HC01.o.trans2 HCW3.o (λg hg e=>by have:=HBB.o;omega));have hsb:(states:Int)<=1000000000:=oM;by_cases h0:tv<0
   .have d1:decide (tv<0)=true:=decide_eq_true h0
    have HF:Hd (sU states alts tokens (kd,al,ed)=false):=jh (by
     have:ed.any (cW states)=true:=Au5.2 ⟨_,Az2 HD.o,by simp[cW,h0]⟩;simp[sU,this])
    go_wp2;go_ret
    exact⟨by rw[HF.o];rfl,HCF.o⟩
   .have d1:decide (tv<0)=false:=decide_eq_false h0
    by_cases h4:(states:Int)<=tv
    .have d2:decide ((states:Int)<=tv)=true:=decide_eq_true h4
     have HF:Hd (sU states alts tokens (kd,al,ed)=false):=jh (by
      have:ed.any (cW states)=true:=Au5.2 ⟨_,Az2 HD.o,by simp[cW,h4]⟩;simp[sU,this])
     go_wp2;go_ret
     exact⟨by rw[HF.o];rfl,HCF.o⟩
    .have d2:decide ((states:Int)<=tv)=false:=decide_eq_false h4
     have HNB2:Hd (∀(j:Nat) e,j<k+1->ed[j]?=some e->cW states e=false):=jh (λj e hj hje=>by
      by_cases hjk:j=k
      .subst hjk
       rw[HD.o]at hje;obtain rfl:=Az3 hje;simp[cW,h0,h4]
      .exact HNB.o j e oM hje)
     go_wp2;go_roundw
     case rel=>exact⟨k+1,_,oM,by go_num,by rw[Au4];exact HYL.o,HYE3.o,HNB2.o,HOS.o,HCW3.o⟩
     case measure=>simp[intOf];omega
  .obtain rfl:k=ed.length:=oM
   have b9:decide ((ed.length:Int)<(ed.length:Int))=false:=sI;have hYE:Y=ed.map (·.1):=List.ext_getElem? (λi=>by
    by_cases hi:i<ed.length
    .exact HYE.o i hi
    .rw[List.getElem?_eq_none (by rw[HYL.o];omega),List.getElem?_eq_none (by rw[Aw3];omega)])
   have HANY:Hd (ed.any (cW states)=false):=jh (by
    rw[Aw1];intro e he;obtain⟨j,hj⟩:=Ax7 he;rw[HNB.o j e (Az1.1 hj).1 hj];exact Au1)
   have HFF:Hd (sU states alts tokens (kd,al,ed)=(xW al 0 alts && xW (ed.map (·.1)) (-1) tokens && zDh kd al.length ed.length)):=jh (by simp[sU,HANY.o]);have HBY:Hd (intE.InS wr (λ_=>True) (some ⟨bb,0,none⟩,(ed.map (·.1)).length,ed.length) (ed.map (·.1))):=jh (by
    rw[<-hYE];have h:=(HYO.o.in' (c':=ed.length) (Ay _));have h2:=(Elt.In.inS h).mono (S':=λ_=>True) (λ_ _ _=>trivial);rw[HYL.o];exact h2)
   have HAW:Hd (intE.InS wr S (aa,al.length,ac) al):=jh (HA.o.chg HCA.o iF);obtain⟨f0,f1,f2⟩:=HFR.o;clear hYE HYE HNB HYO;have hr1:=zD0 al 0 alts aa ac S wr HAW.o hal ⟨oM,oM⟩ oM oM;have hr2:=zD0 (ed.map (·.1)) (-1) tokens (some ⟨bb,0,none⟩) ed.length (λ_=>True) wr HBY.o (by rw[Aw3];exact hel) ⟨oM,oM⟩ oM oM;rw[Aw3]at hr2;cases hra:xW al 0 alts with
   | false =>
    rw[hra]at hr1 HFF;have HF:Hd (sU states alts tokens (kd,al,ed)=false):=jh (by rw[HFF.o];rfl);have HR1:=jh hr1;clear hr1 hr2 hra;go_wp2_with fail
    refine HR1.o.mono ?_;rintro e w2 ⟨rfl,rfl⟩;go_wp2;go_ret
    exact⟨by rw[HF.o];rfl,HCA.o⟩
   | true =>
    rw[hra]at hr1 HFF;cases hrb:xW (ed.map (·.1)) (-1) tokens with
    | false =>
     rw[hrb]at hr2 HFF;have HF:Hd (sU states alts tokens (kd,al,ed)=false):=jh (by rw[HFF.o];rfl);have HR1:=jh hr1;have HR2:=jh hr2;clear hr1 hr2 hra hrb;go_wp2_with fail
     refine HR1.o.mono ?_;rintro e w2 ⟨rfl,rfl⟩;go_wp2_with fail
     refine HR2.o.mono ?_;rintro e w3 ⟨rfl,rfl⟩;go_wp2;go_ret
     exact⟨by rw[HF.o];rfl,HCA.o⟩
    | true =>
     rw[hrb]at hr2 HFF;have HF:Hd (sU states alts tokens (kd,al,ed)=zDh kd al.length ed.length):=jh (by rw[HFF.o];rfl);have HR1:=jh hr1;have HR2:=jh hr2;clear hr1 hr2 hra hrb;go_wp2_with fail
     refine HR1.o.mono ?_;rintro e w2 ⟨rfl,rfl⟩;go_wp2_with fail
     refine HR2.o.mono ?_;rintro e w3 ⟨rfl,rfl⟩;have HCA2:=HCA;clear HR1 HR2 HANY HBY HAW;have hfacts:∃x0 x1 x2 y0:Bool,(((al.length:Int) == 0)=x0/\(al.length == 0)=x0/\decide (al.length=0)=x0)/\(((al.length:Int) == 1)=x1/\(al.length == 1)=x1/\decide (al.length=1)=x1)/\(decide ((1:Int)<(al.length:Int))=x2/\decide (1<al.length)=x2)/\(((ed.length:Int) == 0)=y0/\(ed.length == 0)=y0/\decide (ed.length=0)=y0):=by
      refine⟨_,_,_,_,⟨?_,?_,rfl⟩,⟨?_,?_,rfl⟩,⟨?_,rfl⟩,⟨?_,?_,rfl⟩⟩
      all_goals first|rfl|(rw[Au6];simp <;> omega)
     obtain⟨x0,x1,x2,y0,⟨p0,p0',p0''⟩,⟨p1,p1',p1''⟩,⟨p2,p2'⟩,⟨r0,r0',r0''⟩⟩:=hfacts;have HP:Hd (zDh kd al.length ed.length=if kd=0 then x0 else if kd=1 then x1 && y0 else if kd=3 then x2 && y0 else decide (kd=2) && x0 && y0):=jh (by rw[zDh,p0'',p1'',p2',r0'']);clear p0'' p1'' r0'';rcases zD9 hk with h5|h5|h5|h5|h5
     .subst h5
      have HQ:Hd (sU states alts tokens (0,al,ed)=x0):=jh (by rw[HF.o,HP.o];rfl);go_wp2;go_ret
      exact⟨by rw[HQ.o];rfl,HCA.o⟩
     .subst h5
      have HQ:Hd (sU states alts tokens (1,al,ed)=(x1 && y0)):=jh (by rw[HF.o,HP.o];rfl);cases x1
      .go_wp2
       go_ret
       exact⟨by rw[HQ.o];rfl,HCA.o⟩
      .go_wp2
       go_ret
       exact⟨by rw[HQ.o];rfl,HCA.o⟩
     .subst h5
      have HQ:Hd (sU states alts tokens (2,al,ed)=(x0 && y0)):=jh (by rw[HF.o,HP.o];rfl);cases x0
      .go_wp2
       go_ret
       exact⟨by rw[HQ.o];rfl,HCA.o⟩
      .go_wp2
       go_ret
       exact⟨by rw[HQ.o];rfl,HCA.o⟩
     .subst h5
      have HQ:Hd (sU states alts tokens (3,al,ed)=(x2 && y0)):=jh (by rw[HF.o,HP.o];rfl);cases x2
      .go_wp2
       go_ret
       exact⟨by rw[HQ.o];rfl,HCA.o⟩
      .go_wp2
       go_ret
       exact⟨by rw[HQ.o];rfl,HCA.o⟩
     .have HQ:Hd (sU states alts tokens (kd,al,ed)=false):=jh (by rw[HF.o,HP.o,if_neg oM,if_neg oM,if_neg oM,decide_eq_false (show ¬kd=2 by omega)];rfl)
      have n0:(kd == 0)=false:=sO;have n1:(kd == 1)=false:=sO;have n2:(kd == 2)=false:=sO;have n3:(kd == 3)=false:=sO;go_wp2;go_ret
      exact⟨by rw[HQ.o];rfl,HCA.o⟩
def bR {β δ:Type}(R:Rp β δ) (P:δ->Prop):Rp β δ:=λw S x d=>R w S x d/\P d
theorem bR.good {β δ:Type}{R:Rp β δ}{P:δ->Prop}(h:Good R):Good (bR R P):=⟨λhr hc hs=>⟨h.chg hr.1 hc hs,hr.2⟩,λhr hs=>⟨h.mono hr.1 hs,hr.2⟩⟩
theorem zJ.bnd {β δ:Type}{E:Elt β}{R:Rp β δ}{P:δ->Prop}{w:World}{S:Nat->Prop}{s:Sl}{L:List δ}(h:zJ E R w S s L) (hp:∀d∈L,P d):zJ E (bR R P) w S s L:=by
 obtain⟨X,h1,h2,h3⟩:=h;exact⟨X,h1,h2,λj x d hx hd=>⟨h3 j x d hx hd,hp d (Az2 hd)⟩⟩
theorem vW {w:World}{b:Nat}(v:Value) (e:TypeId) (h:b=w.heap.size):(w.alloc (.cells #[v] e)).cell? ⟨b,0,none⟩=some v:=by
 rw[h,Az7];rfl
theorem yG {w:World}{p:Addr}{u:Value}(o:Obj) (h:w.cell? p=some u):(w.alloc o).cell? p=some u:=((Chg.refl (λ_=>False) w).alloc o).cellS h iD
def lsB (d:LsD):Prop:=d.2.1.length<=1000000000/\d.2.2.length<=1000000000
theorem zQe (bn ba bt n alts tokens:Nat) (S:Nat->Prop) (w:World) (h1:n<=1000000000) (h2:alts<=1000000000) (h3:tokens<=1000000000) (cn:w.cell? ⟨bn,0,none⟩=some (.int .i64 n)) (ca:w.cell? ⟨ba,0,none⟩=some (.int .i64 alts)) (ct:w.cell? ⟨bt,0,none⟩=some (.int .i64 tokens)) :
  mG lsE zCq (bR lsR lsB) S 95 #[.pointer (some ⟨bn,0,none⟩),.pointer (some ⟨ba,0,none⟩),.pointer (some ⟨bt,0,none⟩)] (λs=>!sU n alts tokens s) w:=by
 intro y d w' ⟨⟨hy1,hk,hya,hye⟩,hb1,hb2⟩ hok hc;obtain⟨kd,al,ed⟩:=d;obtain⟨yk,⟨aa,an,ac⟩,⟨ea,en,ec⟩⟩:=y;simp only at hy1 hk hya hye hb1 hb2;obtain⟨rfl,-⟩:=hya.len;obtain⟨rfl,-⟩:=hye.len;subst hy1;have hd:=(Chg.refl (λ_=>False) w').alloc (.cells #[.int .u8 yk,.slice aa al.length ac,.slice ea ed.length ec] 67);have HF:=jh (zKv (yk,al,ed) aa ea ac ec n alts tokens S _ hk (hya.chg hd iF) (hye.chg hd iF) hb1 hb2 h1 h2 h3);have qn:=yG (.cells #[.int .u8 yk,.slice aa al.length ac,.slice ea ed.length ec] 67) (hc.cellS cn iD);have qa:=yG (.cells #[.int .u8 yk,.slice aa al.length ac,.slice ea ed.length ec] 67) (hc.cellS ca iD);have qt:=yG (.cells #[.int .u8 yk,.slice aa al.length ac,.slice ea ed.length ec] 67) (hc.cellS ct iD);clear cn ca ct hd hya hye;show Calls Tryz.prog 95 #[.agg #[.int .u8 yk,.slice aa al.length ac,.slice ea ed.length ec],.pointer (some ⟨bn,0,none⟩),.pointer (some ⟨ba,0,none⟩),.pointer (some ⟨bt,0,none⟩)] w' _;obtain⟨b,hb⟩:∃b,sU n alts tokens (yk,al,ed)=b:=⟨_,rfl⟩;rw[hb]at HF;have HB:=jh hb;clear hb;simp only at HF;go_enter Tryz.func95,Tryz.ntmps95
 go_wp2_with fail
 refine HF.o.mono ?_;rintro e w2 ⟨rfl,hc2⟩;have HC:=jh (((Chg.refl _ w').alloc _).trans hc2);clear hc2;go_wp2;go_ret
 exact⟨by show Ending.returned (.bool (!b))=_;rw[<-HB.o],HC.o⟩
theorem zE6 (A:List LsD) (a:Option Addr) (c alts tokens:Nat) (S:Nat->Prop) (w:World) (h:mA w S (a,A.length,c) A) (hA:A.length<=1000000000) (hb:∀d∈A,lsB d) (h2:alts<=1000000000) (h3:tokens<=1000000000) :
  Calls Tryz.prog 39 #[.agg #[.slice a A.length c],.int .i64 alts,.int .i64 tokens] w λe w'=>e=.returned (.bool (xN A alts tokens))/\Cf w w':=by
 have HL:=jh (zJ.bnd h hb);clear h hb;have hmf:=mkfn;by_cases h4:A.length<1
 .have d1:decide (A.length<1)=true:=decide_eq_true h4
  have d1':decide ((A.length:Int)<1)=true:=decide_eq_true oM;have HF:Hd (xN A alts tokens=false):=jh (by simp only[xN,decide_eq_false (show ¬1<=A.length by omega),Aw0]);go_enter Tryz.func39,Tryz.ntmps39
  go_wp2;go_ret
  exact⟨by rw[HF.o];rfl,((((Chg.refl _ w).alloc _).alloc _).alloc _).alloc _⟩
 .have d1:decide (A.length<1)=false:=decide_eq_false h4
  have d1':decide ((A.length:Int)<1)=false:=decide_eq_false oM;by_cases h5:4096<A.length
  .have d2:decide (4096<A.length)=true:=decide_eq_true h5
   have d2':decide ((4096:Int)<(A.length:Int))=true:=decide_eq_true oM;have HF:Hd (xN A alts tokens=false):=jh (by simp only[xN,decide_eq_false (show ¬A.length<=4096 by omega),Av1,Aw0]);go_enter Tryz.func39,Tryz.ntmps39
   go_wp2;go_ret
   exact⟨by rw[HF.o];rfl,((((Chg.refl _ w).alloc _).alloc _).alloc _).alloc _⟩
  .have d2:decide (4096<A.length)=false:=decide_eq_false h5
   have d2':decide ((4096:Int)<(A.length:Int))=false:=decide_eq_false oM;have HF:Hd (xN A alts tokens=!A.any (λs=>!sU A.length alts tokens s)):=jh (by simp only[xN,decide_eq_true (show 1<=A.length by omega),decide_eq_true (show A.length<=4096 by omega),Av7]);have eg:=enters_of Tryz.func95 kR rfl;go_enter Tryz.func39,Tryz.ntmps39
   go_upto_region 4 with (fail)
   obtain⟨wv,hwv⟩:∃W,W=((((w.alloc (.cells #[.slice a A.length c] 63)).alloc (.cells #[.int .i64 alts] 3)).alloc (.cells #[.int .i64 tokens] 3)).alloc (.cells #[.int .i64 A.length] 3)):=⟨_,rfl⟩;have HCV:Hd (Cf w wv):=jh (by rw[hwv];exact ((((Chg.refl _ w).alloc _).alloc _).alloc _).alloc _);have q0:wv.cell? ⟨w.heap.size,0,none⟩=some (.slice a A.length c):=(by rw[hwv];exact yG _ (yG _ (yG _ (vW _ _ rfl))));have q1:wv.cell? ⟨w.heap.size+1,0,none⟩=some (.int .i64 alts):=(by rw[hwv];exact yG _ (yG _ (vW _ _ sI)));have q2:wv.cell? ⟨w.heap.size+1+1,0,none⟩=some (.int .i64 tokens):=(by rw[hwv];exact yG _ (vW _ _ sI));have q3:wv.cell? ⟨w.heap.size+1+1+1,0,none⟩=some (.int .i64 A.length):=(by rw[hwv];exact vW _ _ sI);rw[<-hwv];clear hwv;have HC:=jh (zFt (bR.good lsR.good) 95 _ _ A a c wv eg ((zJ.good (bR.good lsR.good)).chg HL.o HCV.o iF) (zQe (w.heap.size+1+1+1) (w.heap.size+1) (w.heap.size+1+1) A.length alts tokens S wv hA h2 h3 q3 q1 q2) hA);clear q1 q2 q3;go_wp2_with fail
   refine HC.o.mono ?_;rintro e w2 ⟨rfl,hc2⟩;have HC2:=jh (HCV.o.trans hc2);clear hc2;obtain⟨b,hb⟩:∃b,A.any (λs=>!sU A.length alts tokens s)=b:=⟨_,rfl⟩;rw[hb]at HF ⊢;clear hb;go_wp2;go_ret
   exact⟨by rw[HF.o];rfl,HC2.o⟩
def xJ (ns:Nat) (i:Int):Bool:=decide (0<=i) && decide (i<ns)
def zCm (nst np:Nat) (k:Int):Int:=if k=2 then nst else if k=3 then np else 1
def xY (ns nst np:Nat) (e:qS):Bool:=decide (3<e.1) || decide (e.2.1<0) || (decide (e.1≠1) && decide (zCm nst np e.1<=e.2.1)) || !xJ ns e.2.2
def rN (e:qS):Bool:=!decide (e.1=0)
def kU (ns nst np:Nat) (s:StD):Bool:=!s.2.1.any (xY ns nst np) && (decide (s.2.2.length=0) || (decide (s.2.2.length=s.2.1.length) && decide (2<=s.2.2.length) && !s.2.1.any rN && !s.2.2.any (λi=>!xJ ns i)))
theorem zKa (i:Int) (p ns:Nat) (sa:Option Addr) (sc:Nat) (w:World) (hp:w.cell? ⟨p,0,none⟩=some (.slice sa ns sc)) :
  Calls Tryz.prog 87 #[.int .i64 i,.pointer (some ⟨p,0,none⟩)] w λe w'=>e=.returned (.bool (xJ ns i))/\w'=w:=by
 by_cases h1:0<=i
 .have d1:decide (0<=i)=true:=decide_eq_true h1
  have HF:Hd (xJ ns i=decide (i<ns)):=jh (by rw[xJ,d1,Av7]);go_enter Tryz.func87,Tryz.ntmps87
  go_wp2;go_ret
  exact⟨by rw[HF.o];rfl,rfl⟩
 .have d1:decide (0<=i)=false:=decide_eq_false h1
  have HF:Hd (xJ ns i=false):=jh (by rw[xJ,d1,Aw0]);go_enter Tryz.func87,Tryz.ntmps87
  go_wp2;go_ret
  exact⟨by rw[HF.o];rfl,rfl⟩
theorem zDv (i:Int) (p ns:Nat) (sa:Option Addr) (sc:Nat) (w:World) (hp:w.cell? ⟨p,0,none⟩=some (.slice sa ns sc)) :
  Calls Tryz.prog 133 #[.int .i64 i,.pointer (some ⟨p,0,none⟩)] w λe w'=>e=.returned (.bool (xJ ns i))/\w'=w:=by
 by_cases h1:0<=i
 .have d1:decide (0<=i)=true:=decide_eq_true h1
  have HF:Hd (xJ ns i=decide (i<ns)):=jh (by rw[xJ,d1,Av7]);go_enter Tryz.func133,Tryz.ntmps133
  go_wp2;go_ret
  exact⟨by rw[HF.o];rfl,rfl⟩
 .have d1:decide (0<=i)=false:=decide_eq_false h1
  have HF:Hd (xJ ns i=false):=jh (by rw[xJ,d1,Aw0]);go_enter Tryz.func133,Tryz.ntmps133
  go_wp2;go_ret
  exact⟨by rw[HF.o];rfl,rfl⟩
theorem zGw (q p ns:Nat) (sa:Option Addr) (sc:Nat) (w:World) (hq:w.cell? ⟨q,0,none⟩=some (.func (.func 87) #[] #[.pointer (some ⟨p,0,none⟩)])) (hp:w.cell? ⟨p,0,none⟩=some (.slice sa ns sc)) :
  zDc 88 #[.pointer (some ⟨q,0,none⟩)] (λi=>!xJ ns i) w:=by
 intro x w' hx hc;have hq':=hc.cellS hq iD;have HS:=jh (zKa x p ns sa sc w' (hc.cellS hp iD));have eg:=enters_of Tryz.func87 kR rfl;clear hq hp;show Calls Tryz.prog 88 #[.int .i64 x,.pointer (some ⟨q,0,none⟩)] w' _;obtain⟨b,hb⟩:∃b,xJ ns x=b:=⟨_,rfl⟩;rw[hb]at HS;have HB:=jh hb;clear hb;go_enter Tryz.func88,Tryz.ntmps88
 go_wp2_with fail
 refine HS.o.mono ?_;rintro e w2 ⟨rfl,rfl⟩;go_wp2;go_ret
 exact⟨by show Ending.returned (.bool (!b))=_;rw[<-HB.o],Chg.refl _ _⟩
theorem zGv (q p ns:Nat) (sa:Option Addr) (sc:Nat) (w:World) (hq:w.cell? ⟨q,0,none⟩=some (.func (.func 133) #[] #[.pointer (some ⟨p,0,none⟩)])) (hp:w.cell? ⟨p,0,none⟩=some (.slice sa ns sc)) :
  zDc 136 #[.pointer (some ⟨q,0,none⟩)] (λi=>!xJ ns i) w:=by
 intro x w' hx hc;have hq':=hc.cellS hq iD;have HS:=jh (zDv x p ns sa sc w' (hc.cellS hp iD));have eg:=enters_of Tryz.func133 kR rfl;clear hq hp;show Calls Tryz.prog 136 #[.int .i64 x,.pointer (some ⟨q,0,none⟩)] w' _;obtain⟨b,hb⟩:∃b,xJ ns x=b:=⟨_,rfl⟩;rw[hb]at HS;have HB:=jh hb;clear hb;go_enter Tryz.func136,Tryz.ntmps136
 go_wp2_with fail
 refine HS.o.mono ?_;rintro e w2 ⟨rfl,rfl⟩;go_wp2;go_ret
 exact⟨by show Ending.returned (.bool (!b))=_;rw[<-HB.o],Chg.refl _ _⟩
def rS (ns:Nat) (i:Int):Bool:=decide (i<0) || decide ((ns:Int)-1<=i)
theorem zK8 (p ns:Nat) (sa:Option Addr) (sc:Nat) (w:World) (hns:ns<=1000000000) (hp:w.cell? ⟨p,0,none⟩=some (.slice sa ns sc)):zDc 91 #[.pointer (some ⟨p,0,none⟩)] (rS ns) w:=by
 intro x w' hx hc;have hp':=hc.cellS hp iD;clear hp;show Calls Tryz.prog 91 #[.int .i64 x,.pointer (some ⟨p,0,none⟩)] w' _;by_cases h1:x<0
 .have d1:decide (x<0)=true:=decide_eq_true h1
  have HF:Hd (rS ns x=true):=jh (by rw[rS,d1,Bool.true_or]);go_enter Tryz.func91,Tryz.ntmps91
  go_wp2;go_ret
  exact⟨by rw[HF.o];rfl,Chg.refl _ _⟩
 .have d1:decide (x<0)=false:=decide_eq_false h1
  have HF:Hd (rS ns x=decide ((ns:Int)-1<=x)):=jh (by rw[rS,d1,Au8]);go_enter Tryz.func91,Tryz.ntmps91
  go_wp2;go_ret
  exact⟨by rw[HF.o];rfl,Chg.refl _ _⟩
theorem zFq (e:qS) (w:World) (h:U8 e.1):Calls Tryz.prog 134 #[pN e] w λr w'=>r=.returned (.bool (decide (e.1=0)))/\Cf w w':=by
 obtain⟨k,x,t⟩:=e;show Calls Tryz.prog 134 #[.agg #[.int .u8 k,.int .i64 x,.int .i64 t]] w _;simp only;have HB:Hd ((k == 0)=decide (k=0)):=jh rfl;clear h;go_enter Tryz.func134,Tryz.ntmps134
 go_wp2;go_ret
 exact⟨rfl,(Chg.refl _ w).alloc _⟩
theorem zK9 (q:Nat) (S:Nat->Prop) (w:World) (hq:w.cell? ⟨q,0,none⟩=some (.func (.func 134) #[] #[])):mG qC pN eqR S 135 #[.pointer (some ⟨q,0,none⟩)] rN w:=by
 intro y d w' hyd hok hc;obtain rfl:y=d:=hyd;have hq':=yG (.cells #[.int .u8 y.1,.int .i64 y.2.1,.int .i64 y.2.2] 71) (hc.cellS hq iD);have eg:=enters_of Tryz.func134 kR rfl;obtain⟨k,x,t⟩:=y;have HE:=jh (zFq (k,x,t) (w'.alloc (.cells #[.int .u8 k,.int .i64 x,.int .i64 t] 71)) hok.1);clear hq;show Calls Tryz.prog 135 #[.agg #[.int .u8 k,.int .i64 x,.int .i64 t],.pointer (some ⟨q,0,none⟩)] w' _;simp only at hq' HE;obtain⟨b,hb⟩:∃b,decide (k=0)=b:=⟨_,rfl⟩;rw[hb]at HE;have HF:Hd (rN (k,x,t)=!b):=jh (by rw[rN,hb]);clear hb;go_enter Tryz.func135,Tryz.ntmps135
 go_wp2_with fail
 refine HE.o.mono ?_;rintro e w2 ⟨rfl,hc2⟩;have HC:=jh (((Chg.refl _ w').alloc _).trans hc2);clear hc2;go_wp2;go_ret
 exact⟨by rw[HF.o];rfl,HC.o⟩
theorem zE {w:World}{b j:Nat}{v:Value}{cs:Array Value}(e:TypeId) (h:b=w.heap.size) (hj:cs[j]?=some v):(w.alloc (.cells cs e)).cell? ⟨b,j,none⟩=some v:=by
 rw[h,Az7];exact hj
theorem zL8 (d:StD) (aa ea:Option Addr) (ac ec ns nst np nd ns2 c0 c1 c2 c3 c4:Nat) (a0 a1 a2 a3 a4:Option Addr) (S:Nat->Prop) (w:World) (ha:qC.InS w S (aa,d.2.1.length,ac) d.2.1) (he:intE.InS w S (ea,d.2.2.length,ec) d.2.2) (hal:d.2.1.length<=1000000000) (hel:d.2.2.length<=1000000000) :
  Calls Tryz.prog 92 #[.agg #[.int .i64 d.1,.slice aa d.2.1.length ac,.slice ea d.2.2.length ec],.agg #[.slice a0 ns c0,.slice a1 nst c1,.slice a2 ns2 c2,.slice a3 np c3,.slice a4 nd c4]] w λe w'=>e=.returned (.bool (kU ns nst np d))/\Cf w w':=by
 obtain⟨dr,al,ed⟩:=d;simp only at ha he hal hel ⊢;have HA:=jh (zJ.of ha);have HE:=jh he;clear ha he;have hmf:=mkfn;have eg:=enters_of Tryz.func133 kR rfl;have eg3:=enters_of Tryz.func135 kR rfl;have eg4:=enters_of Tryz.func136 kR rfl;go_enter Tryz.func92,Tryz.ntmps92
 go_upto_region 2 with (fail)
 obtain⟨wv,hwv⟩:∃W,W=((w.alloc (.cells #[.int .i64 dr,.slice aa al.length ac,.slice ea ed.length ec] 74)).alloc (.cells #[.slice a0 ns c0,.slice a1 nst c1,.slice a2 ns2 c2,.slice a3 np c3,.slice a4 nd c4] 31)).alloc (.cells #[.func (.func 133) #[] #[.pointer (some ⟨w.heap.size+1,0,none⟩)]] 174):=⟨_,rfl⟩;have HCV:Hd (Cf w wv):=jh (by rw[hwv];exact (((Chg.refl _ w).alloc _).alloc _).alloc _);have HVS:Hd (wv.heap.size=w.heap.size+3):=jh (by rw[hwv];simp);have HQ:Hd ((wv.cell? ⟨w.heap.size,1,none⟩=some (.slice aa al.length ac)/\wv.cell? ⟨w.heap.size,2,none⟩=some (.slice ea ed.length ec))/\(wv.cell? ⟨w.heap.size+1,0,none⟩=some (.slice a0 ns c0)/\wv.cell? ⟨w.heap.size+1,1,none⟩=some (.slice a1 nst c1)/\wv.cell? ⟨w.heap.size+1,3,none⟩=some (.slice a3 np c3))/\wv.cell? ⟨w.heap.size+1+1,0,none⟩=some (.func (.func 133) #[] #[.pointer (some ⟨w.heap.size+1,0,none⟩)])):=jh (by
  rw[hwv];exact⟨⟨yG _ (yG _ (zE _ rfl rfl)),yG _ (yG _ (zE _ rfl rfl))⟩,⟨yG _ (zE _ sI rfl),yG _ (zE _ sI rfl),yG _ (zE _ sI rfl)⟩,zE _ sI rfl⟩)
 rw[<-hwv];clear hwv;have q1:=HQ.o.1.1;go_wp2;clear q1
 go_loopw [15] (λq wr=>∃k:Nat,k<=al.length/\q=.int .i64 k/\(∀(j:Nat) e,j<k->al[j]?=some e->xY ns nst np e=false)/\Cf wv wr) (λq _=>al.length-(intOf q).toNat)
 case atStart=>exact⟨0,oM,rfl,λj e h=>absurd h (Ax _),Chg.refl _ _⟩
 case round =>
  obtain⟨k,hk,rfl,hb,hc⟩:=hrel;have HB:=jh hb;have HC:=jh hc;have HCW:Hd (Cf w wr):=jh (HCV.o.trans hc);clear hb hc;by_cases hkl:k<al.length
  .have b9:decide ((k:Int)<(al.length:Int))=true:=by simp;omega
   obtain⟨x,d,g,o,hd,hx,rfl,-,-,hok,hcells⟩:=((zJ.good eqR.good).chg HA.o HCW.o iF).get3 (f:=aY) rfl hkl rfl;obtain rfl:x=d:=hx;obtain⟨e0,e1,e2⟩:=hcells _ _ _ rfl;obtain⟨kd,wh,tgt⟩:=x;obtain⟨hkd,hwh,htg⟩:=hok;simp only at e0 e1 e2 hkd hwh htg;have HD:=jh hd;have HBAD:Hd (xY ns nst np (kd,wh,tgt)=true->kU ns nst np (dr,al,ed)=false):=jh (λh=>by
    have:al.any (xY ns nst np)=true:=Au5.2 ⟨_,Az2 HD.o,h⟩;simp[kU,this])
   have HNX:Hd (xY ns nst np (kd,wh,tgt)=false->∀(j:Nat) e,j<k+1->al[j]?=some e->xY ns nst np e=false):=jh (λh j e hj hje=>by
    by_cases hjk:j=k
    .subst hjk
     rw[HD.o]at hje;obtain rfl:=Az3 hje;exact h
    .exact HB.o j e oM hje)
   obtain⟨w2,hw2⟩:∃W,W=wr.alloc (.cells #[.int .u8 kd,.int .i64 wh,.int .i64 tgt] 71):=⟨_,rfl⟩;have HC2:Hd (Cf wr w2):=jh (by rw[hw2];exact (Chg.refl _ _).alloc _);have f0:w2.cell? ⟨wr.heap.size,0,none⟩=some (.int .u8 kd):=(by rw[hw2];exact zE _ rfl rfl);have f1:w2.cell? ⟨wr.heap.size,1,none⟩=some (.int .i64 wh):=(by rw[hw2];exact zE _ rfl rfl);have f2:w2.cell? ⟨wr.heap.size,2,none⟩=some (.int .i64 tgt):=(by rw[hw2];exact zE _ rfl rfl);have HCV2:Hd (Cf wv w2):=jh (HC.o.trans HC2.o);have HCW2:Hd (Cf w w2):=jh (HCW.o.trans HC2.o);have n1:=HCV2.o.cellS HQ.o.2.1.2.1 iD;have n3:=HCV2.o.cellS HQ.o.2.1.2.2 iD;have n5:=HCV2.o.cellS HQ.o.2.2 iD;have HST:=jh (zDv tgt (w.heap.size+1) ns a0 c0 w2 (HCV2.o.cellS HQ.o.2.1.1 iD));clear hd hcells;go_upto_region 5 with (fail)
   rw[<-hw2];clear hw2 e0 e1 e2;rcases zD9 hkd with h5|h5|h5|h5|h5
   rotate_left 4
   .have k0:(kd == 2)=false:=by rw[beq_eq_false_iff_ne];omega
    have k1:(kd == 3)=false:=(by rw[beq_eq_false_iff_ne];omega);have k2:decide (3<kd)=true:=decide_eq_true h5;have HF:=jh (HBAD.o (by simp[xY,h5]));clear HST;go_wp2;go_ret
    exact⟨by rw[HF.o];rfl,HCW2.o⟩
   .subst h5
    by_cases hw0:wh<0
    .have d1:decide (wh<0)=true:=decide_eq_true hw0
     have HF:=jh (HBAD.o (by simp[xY,hw0]));clear HST;go_wp2;go_ret
     exact⟨by rw[HF.o];rfl,HCW2.o⟩
    .have d1:decide (wh<0)=false:=decide_eq_false hw0
     by_cases hm:1<=wh
     .have d2:decide (1<=wh)=true:=decide_eq_true hm
      have HF:=jh (HBAD.o (by simp[xY,zCm,hm]));clear HST;go_wp2;go_ret
      exact⟨by rw[HF.o];rfl,HCW2.o⟩
     .have d2:decide (1<=wh)=false:=decide_eq_false hm
      cases hst:xJ ns tgt with
      | false =>
       have HF:=jh (HBAD.o (by simp[xY,hst]));rw[hst]at HST;clear hst;go_wp2_with fail
       refine HST.o.mono ?_;rintro e w3 ⟨rfl,rfl⟩;go_wp2;go_ret
       exact⟨by rw[HF.o];rfl,HCW2.o⟩
      | true =>
       have HN:=jh (HNX.o (by simp[xY,zCm,hw0,hm,hst]));rw[hst]at HST;clear hst;go_wp2_with fail
       refine HST.o.mono ?_;rintro e w3 ⟨rfl,rfl⟩;go_wp2;go_roundw
       case rel=>exact⟨k+1,oM,by go_num,HN.o,HCV2.o⟩
       case measure=>simp[intOf];omega
   .subst h5
    by_cases hw0:wh<0
    .have d1:decide (wh<0)=true:=decide_eq_true hw0
     have HF:=jh (HBAD.o (by simp[xY,hw0]));clear HST;go_wp2;go_ret
     exact⟨by rw[HF.o];rfl,HCW2.o⟩
    .have d1:decide (wh<0)=false:=decide_eq_false hw0
     cases hst:xJ ns tgt with
     | false =>
      have HF:=jh (HBAD.o (by simp[xY,hst]));rw[hst]at HST;clear hst;go_wp2_with fail
      refine HST.o.mono ?_;rintro e w3 ⟨rfl,rfl⟩;go_wp2;go_ret
      exact⟨by rw[HF.o];rfl,HCW2.o⟩
     | true =>
      have HN:=jh (HNX.o (by simp[xY,hw0,hst]));rw[hst]at HST;clear hst;go_wp2_with fail
      refine HST.o.mono ?_;rintro e w3 ⟨rfl,rfl⟩;go_wp2;go_roundw
      case rel=>exact⟨k+1,oM,by go_num,HN.o,HCV2.o⟩
      case measure=>simp[intOf];omega
   .subst h5
    by_cases hw0:wh<0
    .have d1:decide (wh<0)=true:=decide_eq_true hw0
     have HF:=jh (HBAD.o (by simp[xY,hw0]));clear HST;go_wp2;go_ret
     exact⟨by rw[HF.o];rfl,HCW2.o⟩
    .have d1:decide (wh<0)=false:=decide_eq_false hw0
     by_cases hm:(nst:Int)<=wh
     .have d2:decide ((nst:Int)<=wh)=true:=decide_eq_true hm
      have HF:=jh (HBAD.o (by simp[xY,zCm,hm]));clear HST;go_wp2;go_ret
      exact⟨by rw[HF.o];rfl,HCW2.o⟩
     .have d2:decide ((nst:Int)<=wh)=false:=decide_eq_false hm
      cases hst:xJ ns tgt with
      | false =>
       have HF:=jh (HBAD.o (by simp[xY,hst]));rw[hst]at HST;clear hst;go_wp2_with fail
       refine HST.o.mono ?_;rintro e w3 ⟨rfl,rfl⟩;go_wp2;go_ret
       exact⟨by rw[HF.o];rfl,HCW2.o⟩
      | true =>
       have HN:=jh (HNX.o (by simp[xY,zCm,hw0,hm,hst]));rw[hst]at HST;clear hst;go_wp2_with fail
       refine HST.o.mono ?_;rintro e w3 ⟨rfl,rfl⟩;go_wp2;go_roundw
       case rel=>exact⟨k+1,oM,by go_num,HN.o,HCV2.o⟩
       case measure=>simp[intOf];omega
   .subst h5
    by_cases hw0:wh<0
    .have d1:decide (wh<0)=true:=decide_eq_true hw0
     have HF:=jh (HBAD.o (by simp[xY,hw0]));clear HST;go_wp2;go_ret
     exact⟨by rw[HF.o];rfl,HCW2.o⟩
    .have d1:decide (wh<0)=false:=decide_eq_false hw0
     by_cases hm:(np:Int)<=wh
     .have d2:decide ((np:Int)<=wh)=true:=decide_eq_true hm
      have HF:=jh (HBAD.o (by simp[xY,zCm,hm]));clear HST;go_wp2;go_ret
      exact⟨by rw[HF.o];rfl,HCW2.o⟩
     .have d2:decide ((np:Int)<=wh)=false:=decide_eq_false hm
      cases hst:xJ ns tgt with
      | false =>
       have HF:=jh (HBAD.o (by simp[xY,hst]));rw[hst]at HST;clear hst;go_wp2_with fail
       refine HST.o.mono ?_;rintro e w3 ⟨rfl,rfl⟩;go_wp2;go_ret
       exact⟨by rw[HF.o];rfl,HCW2.o⟩
      | true =>
       have HN:=jh (HNX.o (by simp[xY,zCm,hw0,hm,hst]));rw[hst]at HST;clear hst;go_wp2_with fail
       refine HST.o.mono ?_;rintro e w3 ⟨rfl,rfl⟩;go_wp2;go_roundw
       case rel=>exact⟨k+1,oM,by go_num,HN.o,HCV2.o⟩
       case measure=>simp[intOf];omega
  .obtain rfl:k=al.length:=oM
   have b9:decide ((al.length:Int)<(al.length:Int))=false:=sI;have HANY:Hd (al.any (xY ns nst np)=false):=jh (by
    rw[Aw1];intro e he;obtain⟨j,hj⟩:=Ax7 he;rw[HB.o j e (Az1.1 hj).1 hj];exact Au1)
   have HSM:Hd (kU ns nst np (dr,al,ed)=(decide (ed.length=0) || (decide (ed.length=al.length) && decide (2<=ed.length) && !al.any rN && !ed.any (λi=>!xJ ns i)))):=jh (by simp only[kU,HANY.o,Bool.not_false,Av7]);have q1:=HC.o.cellS HQ.o.1.1 iD;have q2:=HC.o.cellS HQ.o.1.2 iD;have q3:=HC.o.cellS HQ.o.2.2 iD;go_upto_region 15 with (fail)
   obtain⟨w9,hw9⟩:∃W,W=wr.alloc (.cells #[.func (.func 134) #[] #[]] 112):=⟨_,rfl⟩;have HC9:Hd (Cf wr w9):=jh (by rw[hw9];exact (Chg.refl _ _).alloc _);have HQ9:Hd (w9.cell? ⟨wr.heap.size,0,none⟩=some (.func (.func 134) #[] #[])):=jh (by rw[hw9];exact vW _ _ rfl);have HCW9:Hd (Cf w w9):=jh (HCW.o.trans HC9.o);rw[<-hw9];clear hw9 q1 q2 q3;have q1:=HC9.o.cellS (HC.o.cellS HQ.o.1.1 iD) iD;have q2:=HC9.o.cellS (HC.o.cellS HQ.o.1.2 iD) iD;by_cases p0:ed.length=al.length
   .have b1:((ed.length:Int) == (al.length:Int))=true:=by rw[beq_iff_eq];omega
    have b1':(ed.length == al.length)=true:=(by rw[beq_iff_eq];omega);have P0:=jh p0;clear p0;by_cases p2:2<=ed.length
    .have b2:decide (2<=ed.length)=true:=decide_eq_true p2
     have b2':decide ((2:Int)<=(ed.length:Int))=true:=decide_eq_true oM;have HCE:=jh (cL eqR.good 135 _ _ al aa ac w9 eg3 ((zJ.good eqR.good).chg HA.o HCW9.o iF) (zK9 wr.heap.size S w9 HQ9.o) hal);have b3:((ed.length:Int) == 0)=false:=(by rw[beq_eq_false_iff_ne];omega);have b3':(ed.length == 0)=false:=(by rw[beq_eq_false_iff_ne];omega);have HSM2:Hd (kU ns nst np (dr,al,ed)=(!al.any rN && !ed.any (λi=>!xJ ns i))):=jh (by rw[HSM.o,decide_eq_false (show ¬ed.length=0 by omega),decide_eq_true P0.out,decide_eq_true p2,Au8,Av7,Av7]);cases hfl:al.any rN with
     | true =>
      rw[hfl]at HCE HSM2;have HF:Hd (kU ns nst np (dr,al,ed)=false):=jh (by rw[HSM2.o];rfl);clear hfl;go_wp2_with fail
      refine HCE.o.mono ?_;rintro e wa ⟨rfl,hca⟩;have HCA:=jh (HCW9.o.trans hca);have q2:=hca.cellS q2 iD;clear hca;go_wp2;go_ret
      exact⟨by rw[HF.o];rfl,HCA.o⟩
     | false =>
      rw[hfl]at HCE HSM2;clear hfl;go_wp2_with fail
      refine HCE.o.mono ?_;rintro e wa ⟨rfl,hca⟩;have HCA:=jh (HCW9.o.trans hca);have hva:Cf wv wa:=HC.o.trans (HC9.o.trans hca);have q2:=hca.cellS q2 iD;have HCI:=jh (pQ _ #[.pointer (some ⟨w.heap.size+1+1,0,none⟩)] (λi=>!xJ ns i) ed ea ec 0 wa eg4 ((HE.o.chg HCA.o iF).in' (λ_ _=>Av _)) (zGv (w.heap.size+1+1) (w.heap.size+1) ns a0 c0 wa (hva.cellS HQ.o.2.2 iD) (hva.cellS HQ.o.2.1.1 iD)) hel);obtain⟨b,hb⟩:∃b,ed.any (λi=>!xJ ns i)=b:=⟨_,rfl⟩;rw[hb]at HCI HSM2;clear hca hva hb;go_wp2_with fail
      refine HCI.o.mono ?_;rintro e wc ⟨rfl,hcc⟩;have HCC:=jh (HCA.o.trans hcc);clear hcc;go_wp2;go_ret
      exact⟨by rw[HSM2.o];rfl,HCC.o⟩
    .have b2:decide (2<=ed.length)=false:=decide_eq_false p2
     have b2':decide ((2:Int)<=(ed.length:Int))=false:=decide_eq_false oM;have P2:=jh p2;clear p2;by_cases z0:ed.length=0
     .have b3:((ed.length:Int) == 0)=true:=by rw[beq_iff_eq];omega
      have b3':(ed.length == 0)=true:=(by rw[beq_iff_eq];omega);have HF:Hd (kU ns nst np (dr,al,ed)=true):=jh (by rw[HSM.o,decide_eq_true z0,Bool.true_or]);clear z0;go_wp2;go_ret
      exact⟨by rw[HF.o];rfl,HCW9.o⟩
     .have b3:((ed.length:Int) == 0)=false:=by rw[beq_eq_false_iff_ne];omega
      have b3':(ed.length == 0)=false:=(by rw[beq_eq_false_iff_ne];omega);have HF:Hd (kU ns nst np (dr,al,ed)=false):=jh (by rw[HSM.o,decide_eq_false z0,Au8];rw[decide_eq_false P2.out];simp);clear z0;go_wp2;go_ret
      exact⟨by rw[HF.o];rfl,HCW9.o⟩
   .have b1:((ed.length:Int) == (al.length:Int))=false:=by rw[beq_eq_false_iff_ne];omega
    have b1':(ed.length == al.length)=false:=(by rw[beq_eq_false_iff_ne];omega);have P0:=jh p0;clear p0;by_cases z0:ed.length=0
    .have b3:((ed.length:Int) == 0)=true:=by rw[beq_iff_eq];omega
     have b3':(ed.length == 0)=true:=(by rw[beq_iff_eq];omega);have HF:Hd (kU ns nst np (dr,al,ed)=true):=jh (by rw[HSM.o,decide_eq_true z0,Bool.true_or]);clear z0;go_wp2;go_ret
     exact⟨by rw[HF.o];rfl,HCW9.o⟩
    .have b3:((ed.length:Int) == 0)=false:=by rw[beq_eq_false_iff_ne];omega
     have b3':(ed.length == 0)=false:=(by rw[beq_eq_false_iff_ne];omega);have HF:Hd (kU ns nst np (dr,al,ed)=false):=jh (by rw[HSM.o,decide_eq_false z0,Au8];rw[decide_eq_false P0.out];simp);clear z0;go_wp2;go_ret
     exact⟨by rw[HF.o];rfl,HCW9.o⟩
end Go.Proofs.YtgnpmceimpjheaaGreat
