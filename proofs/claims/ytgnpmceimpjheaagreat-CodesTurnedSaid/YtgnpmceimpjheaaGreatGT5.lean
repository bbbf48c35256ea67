/- A part of the proof: CodL CodS CodT CodU CodN. -/
import Derived.Test.YtgnpmceimpjheaaGreatGT4
import Derived.Test.YtgnpmceimpjheaaGreatGT2
import Derived.Shelf.Abstract
set_option maxRecDepth 100000
set_option maxHeartbeats 16000000
namespace Go.Proofs.YtgnpmceimpjheaaGreat
open Go.RowKit
theorem clipStr (w:World) (a:Option Addr) (n c:Nat) (hn:n≤c):Calls Tryz.prog 140 #[.slice a n c] w fun e w'=>e=.returned (.slice a n n)∧w=w':=by
 cases a with
 | none =>
  go_enter Tryz.func140,Tryz.ntmps140
  go_wp2
  go_ret
  exact⟨rfl,rfl⟩
 | some ad =>
  go_enter Tryz.func140,Tryz.ntmps140
  go_wp2
  go_ret
  exact⟨rfl,rfl⟩
theorem clipBool (w:World) (a:Option Addr) (n c:Nat) (hn:n≤c):Calls Tryz.prog 110 #[.slice a n c] w fun e w'=>e=.returned (.slice a n n)∧w=w':=by
 cases a with
 | none =>
  go_enter Tryz.func110,Tryz.ntmps110
  go_wp2
  go_ret
  exact⟨rfl,rfl⟩
 | some ad =>
  go_enter Tryz.func110,Tryz.ntmps110
  go_wp2
  go_ret
  exact⟨rfl,rfl⟩
theorem clipAuto (w:World) (a:Option Addr) (n c:Nat) (hn:n≤c):Calls Tryz.prog 111 #[.slice a n c] w fun e w'=>e=.returned (.slice a n n)∧w=w':=by
 cases a with
 | none =>
  go_enter Tryz.func111,Tryz.ntmps111
  go_wp2
  go_ret
  exact⟨rfl,rfl⟩
 | some ad =>
  go_enter Tryz.func111,Tryz.ntmps111
  go_wp2
  go_ret
  exact⟨rfl,rfl⟩
theorem clipRng (w:World) (a:Option Addr) (n c:Nat) (hn:n≤c):Calls Tryz.prog 143 #[.slice a n c] w fun e w'=>e=.returned (.slice a n n)∧w=w':=by
 cases a with
 | none =>
  go_enter Tryz.func143,Tryz.ntmps143
  go_wp2
  go_ret
  exact⟨rfl,rfl⟩
 | some ad =>
  go_enter Tryz.func143,Tryz.ntmps143
  go_wp2
  go_ret
  exact⟨rfl,rfl⟩
theorem clipSt (w:World) (a:Option Addr) (n c:Nat) (hn:n≤c):Calls Tryz.prog 170 #[.slice a n c] w fun e w'=>e=.returned (.slice a n n)∧w=w':=by
 cases a with
 | none =>
  go_enter Tryz.func170,Tryz.ntmps170
  go_wp2
  go_ret
  exact⟨rfl,rfl⟩
 | some ad =>
  go_enter Tryz.func170,Tryz.ntmps170
  go_wp2
  go_ret
  exact⟨rfl,rfl⟩
theorem clipLs (w:World) (a:Option Addr) (n c:Nat) (hn:n≤c):Calls Tryz.prog 173 #[.slice a n c] w fun e w'=>e=.returned (.slice a n n)∧w=w':=by
 cases a with
 | none =>
  go_enter Tryz.func173,Tryz.ntmps173
  go_wp2
  go_ret
  exact⟨rfl,rfl⟩
 | some ad =>
  go_enter Tryz.func173,Tryz.ntmps173
  go_wp2
  go_ret
  exact⟨rfl,rfl⟩
theorem clipLe (w:World) (a:Option Addr) (n c:Nat) (hn:n≤c):Calls Tryz.prog 150 #[.slice a n c] w fun e w'=>e=.returned (.slice a n n)∧w=w':=by
 cases a with
 | none =>
  go_enter Tryz.func150,Tryz.ntmps150
  go_wp2
  go_ret
  exact⟨rfl,rfl⟩
 | some ad =>
  go_enter Tryz.func150,Tryz.ntmps150
  go_wp2
  go_ret
  exact⟨rfl,rfl⟩
theorem clipEdge (w:World) (a:Option Addr) (n c:Nat) (hn:n≤c):Calls Tryz.prog 189 #[.slice a n c] w fun e w'=>e=.returned (.slice a n n)∧w=w':=by
 cases a with
 | none =>
  go_enter Tryz.func189,Tryz.ntmps189
  go_wp2
  go_ret
  exact⟨rfl,rfl⟩
 | some ad =>
  go_enter Tryz.func189,Tryz.ntmps189
  go_wp2
  go_ret
  exact⟨rfl,rfl⟩
theorem clipList (w:World) (a:Option Addr) (n c:Nat) (hn:n≤c):Calls Tryz.prog 169 #[.slice a n c] w fun e w'=>e=.returned (.slice a n n)∧w=w':=by
 cases a with
 | none =>
  go_enter Tryz.func169,Tryz.ntmps169
  go_wp2
  go_ret
  exact⟨rfl,rfl⟩
 | some ad =>
  go_enter Tryz.func169,Tryz.ntmps169
  go_wp2
  go_ret
  exact⟨rfl,rfl⟩
theorem Chg.trans2 {S S':Nat→Prop} {a b c:World} (h:Chg S a b) (k:Chg S' b c) (hs:∀ k,k<a.heap.size→S' k→S k):Chg S a c :=
 ⟨k.os.trans h.os,k.tape.trans h.tape,k.output.trans h.output,Nat.le_trans h.size k.size,fun j hj hn=>(k.block j (Nat.lt_of_lt_of_le hj h.size) (fun e=>hn (hs j hj e))).trans (h.block j hj hn)⟩
section
variable {β δ:Type} {E:Elt β} {R:Rp β δ}
structure Side (pg gb:Nat) (C T:World→Nat→Prop) (St:World→List δ→List Int→Prop):Prop where
 get:∀ {w acc Z},St w acc Z→GetSt pg gb w Z
 pgC:∀ w,C w pg
 sub:∀ {w k},C w k→T w k
 lt:∀ {w acc Z k},St w acc Z→T w k→k<w.heap.size
 keep:∀ {S:Nat→Prop} {w w' acc Z},St w acc Z→Chg S w w'→(∀ k,S k→¬ T w k)→St w' acc Z∧(∀ k,T w' k→T w k)∧∀ k,C w' k→C w k
 move:∀ {w w' acc Z r},St w acc Z→GetSt pg gb w' r→Chg (·=pg) w w'→St w' acc r∧(∀ k,T w' k→T w k)∧∀ k,C w' k→C w k
def Reads (f:FuncId) (fa:Array Value) (one:Rdr δ) (E:Elt β) (val:β→Value) (R:Rp β δ) (C T:World→Nat→Prop) (St:World→List δ→List Int→Prop):Prop :=
 ∀ (w:World) (acc:List δ) (Z:List Int),St w acc Z→acc.length≤16777215 →
  (one Z=none→Calls Tryz.prog f fa w fun e w'=>e=strangeP∧Chg (C w) w w') ∧
  ∀ x r,one Z=some (x,r)→Calls Tryz.prog f fa w fun e w'=>∃ y,e=.returned (val y)∧E.ok y∧R w' (fun k=>w.heap.size≤k∧¬ T w' k) y x∧St w' (acc++[x]) r∧Chg (C w) w w'∧(∀ k,T w' k→T w k∨w.heap.size≤k)∧∀ k,C w' k→C w k∨w.heap.size≤k
structure LSt (E:Elt β) (R:Rp β δ) (C T:World→Nat→Prop) (St:World→List δ→List Int→Prop) (w wr:World) (v:Value) (acc:List δ) (Z:List Int) (X:List β):Prop where
 own:E.Own wr w.heap.size v X
 len:X.length=acc.length
 rel:∀ (j:Nat) x d,X[j]?=some x→acc[j]?=some d→R wr (fun k=>w.heap.size≤k∧¬ T wr k∧v.ownBlock≠some k) x d
 st:St wr acc Z
 chg:Chg (C w) w wr
 tg:∀ k,T wr k→T w k∨w.heap.size≤k
 cg:∀ k,C wr k→C w k∨w.heap.size≤k
 ob:∀ k,v.ownBlock=some k→¬ T wr k
theorem LSt.start {pg gb:Nat} {C T:World→Nat→Prop} {St:World→List δ→List Int→Prop} (hS:Side pg gb C T St) {w w1:World} {Z r:List Int} (h:St w [] Z) (hg:GetSt pg gb w1 r) (hc:Chg (·=pg) w w1) :
  LSt E R C T St w w1 (.slice none 0 0) [] r []:=by
 obtain⟨h1,h2,h3⟩:=hS.move h hg hc
 exact⟨.nil _ _,rfl,fun j x d hx=>by simp at hx,h1,hc.mono (fun k _ e=>by subst e;exact hS.pgC _),fun k hk=>.inl (h2 k hk),fun k hk=>.inl (h3 k hk),fun k hk=>by cases hk⟩
theorem LSt.step (hR:Good R) {pg gb:Nat} {C T:World→Nat→Prop} {St:World→List δ→List Int→Prop} (hS:Side pg gb C T St) {w wr w2 w4:World} {v v':Value} {acc:List δ} {Z r:List Int} {X:List β} (o:Obj) (h:LSt E R C T St w wr v acc Z X)
  {y:β} {x:δ} (hy:R w2 (fun k=>wr.heap.size≤k∧¬ T w2 k) y x) (hst:St w2 (acc++[x]) r) (hc:Chg (C wr) wr w2) (htg:∀ k,T w2 k→T wr k∨wr.heap.size≤k) (hcg:∀ k,C w2 k→C wr k∨wr.heap.size≤k)
  (ho:E.Own w4 w.heap.size v' (X++[y])) (hb:Chg (fun k=>v.ownBlock=some k) (w2.alloc o) w4∧(v'.ownBlock=v.ownBlock∨v'.ownBlock=some (w2.alloc o).heap.size)):LSt E R C T St w w4 v' (acc++[x]) r (X++[y]):=by
 obtain⟨hb1,hb2⟩:=hb
 have hblk:∀ k,v.ownBlock=some k→w.heap.size≤k∧k<wr.heap.size:=fun k hk=>h.own.blk hk
 have h24:Chg (fun k=>v.ownBlock=some k) w2 w4:=((Chg.refl _ w2).alloc o).trans hb1
 have hnt:∀ k,v.ownBlock=some k→¬ T w2 k:=fun k hk ht=>by
  rcases htg k ht with h1|h1
  ·exact h.ob k hk h1
  ·have:=(hblk k hk).2;omega
 obtain⟨k1,k2,k3⟩:=hS.keep hst h24 hnt
 have hsz:wr.heap.size≤w2.heap.size:=hc.size
 have hsa:(w2.alloc o).heap.size=w2.heap.size+1:=by simp
 have hw:w.heap.size≤wr.heap.size:=h.chg.size
 refine⟨ho,by simp [h.len],fun j z d hz hd=>?_,k1,(h.chg.trans2 hc (fun k hk hCk=>(h.cg k hCk).resolve_right (by omega))).trans2 h24 (fun k hk e=>absurd (hblk k e).1 (by omega)),fun k hk=>?_,fun k hk=>?_,fun k hk ht=>?_⟩
 ·have hnew:∀ k,k<w2.heap.size→v'.ownBlock=some k→v.ownBlock=some k:=fun k hk e=>by
   rcases hb2 with e2|e2
   ·rw [← e2];exact e
   ·rw [e2,hsa] at e;injection e with e;omega
  rw [List.getElem?_append] at hz hd
  by_cases hj:j<X.length
  ·rw [if_pos hj] at hz
   rw [if_pos (by have:=h.len;omega)] at hd
   have r1:=hR.mono (h.rel j z d hz hd) (S':=fun k=>w.heap.size≤k∧¬ T wr k∧v.ownBlock≠some k∧k<wr.heap.size) (fun k hk hs=>⟨hs.1,hs.2.1,hs.2.2,hk⟩)
   have r2:=hR.chg r1 hc (fun k hs hC=>hs.2.1 (hS.sub hC))
   have r3:=hR.chg r2 h24 (fun k hs e=>hs.2.2.1 e)
   refine hR.mono r3 (fun k _ hs=>⟨hs.1,fun ht=>?_,fun e=>hs.2.2.1 (hnew k (by omega) e)⟩)
   rcases htg k (k2 k ht) with h1|h1
   ·exact hs.2.1 h1
   ·omega
  ·rw [if_neg hj] at hz
   rw [if_neg (by have:=h.len;omega)] at hd
   have hj0:j-X.length=0:=by
    have:=(List.getElem?_eq_some_iff.1 hz).1
    simp at this;omega
   rw [hj0] at hz
   rw [show j-acc.length=0 by have:=h.len;omega] at hd
   simp at hz hd
   subst hz hd
   have r1:=hR.mono hy (S':=fun k=>wr.heap.size≤k∧¬ T w2 k∧k<w2.heap.size) (fun k hk hs=>⟨hs.1,hs.2,hk⟩)
   have r2:=hR.chg r1 h24 (fun k hs e=>by have:=(hblk k e).2;omega)
   exact hR.mono r2 (fun k _ hs=>⟨by omega,fun ht=>hs.2.1 (k2 k ht),fun e=>by have:=(hblk k (hnew k hs.2.2 e)).2;omega⟩)
 ·rcases htg k (k2 k hk) with h1|h1
  ·exact h.tg k h1
  ·exact .inr (by omega)
 ·rcases hcg k (k3 k hk) with h1|h1
  ·exact h.cg k h1
  ·exact .inr (by omega)
 ·have ht2:=k2 k ht
  rcases hb2 with e2|e2
  ·rw [e2] at hk;exact hnt k hk ht2
  ·rw [e2,hsa] at hk
   injection hk with hk
   have:=hS.lt hst ht2
   omega
theorem LSt.final {C T:World→Nat→Prop} {St:World→List δ→List Int→Prop} (hR:Good R) {w wr:World} {v:Value} {acc:List δ} {Z:List Int} {X:List β} (h:LSt E R C T St w wr v acc Z X) :
  ∃ a c,v=.slice a acc.length c∧acc.length≤c∧ListR E R wr (fun k=>w.heap.size≤k∧¬ T wr k) (a,acc.length,acc.length) acc:=by
 obtain⟨a,g,c,h1,h2,h3,h4⟩:=h.own.at'
 rw [h.len] at h1 h2
 refine⟨a,c,h1,h2,X,⟨h.len.symm,Nat.le_refl _,g,0,h3,fun hp=>⟨(h4 hp).1,(h4 hp).2,h.ob g (by rw [h1,(h4 hp).1];rfl)⟩⟩,h.len,fun j x d hx hd=>hR.mono (h.rel j x d hx hd) (fun k _ hs=>⟨hs.1,hs.2.1⟩)⟩
theorem Elt.Own.cap {w:World} {B:Nat} {a:Option Addr} {n c:Nat} {X:List β} (h:E.Own w B (.slice a n c) X):E.Own w B (.slice a n n) X:=by
 rcases h with ⟨h1,rfl⟩|⟨g,C,h1,h2,h3,h4,h5⟩
 ·injection h1 with e1 e2 e3
  subst e1 e2
  exact .nil _ _
 ·injection h1 with e1 e2 e3
  subst e1 e2 e3
  refine .inr ⟨g,X,rfl,h2,⟨fun j u hj=>?_,h3.z,h3.lt,fun x hx=>h3.ok x (h4.subset hx)⟩,List.prefix_refl _,Nat.le_trans h4.length_le h5⟩
  have:=(h3.at' h4).c j u hj
  rwa [Nat.zero_add] at this
theorem LSt.finalX {C T:World→Nat→Prop} {St:World→List δ→List Int→Prop} {w wr:World} {a:Option Addr} {n c:Nat} {acc:List δ} {Z:List Int} {X:List β} (h:LSt E R C T St w wr (.slice a n c) acc Z X) :
  ∃ X,E.Own wr w.heap.size (.slice a n n) X∧X.length=acc.length∧(∀ k,(Value.slice a n n).ownBlock=some k→¬ T wr k)∧∀ (j:Nat) x d,X[j]?=some x→acc[j]?=some d→R wr (fun k=>w.heap.size≤k∧¬ T wr k∧(Value.slice a n n).ownBlock≠some k) x d:=by
 have hob:(Value.slice a n n).ownBlock=(Value.slice a n c).ownBlock:=by cases a <;> rfl
 rw [hob]
 exact⟨X,h.own.cap,h.len,h.ob,h.rel⟩
def GotPost (one:Rdr δ) (E:Elt β) (R:Rp β δ) (C T:World→Nat→Prop) (St:World→List δ→List Int→Prop) (w:World) (Z:List Int) (e:Ending) (w':World):Prop :=
 Chg (C w) w w'∧((listG one Z=none∧e=strangeP)∨∃ L r a,listG one Z=some (L,r)∧e=.returned (.slice a L.length L.length)∧ListR E R w' (fun k=>w.heap.size≤k∧¬ T w' k) (a,L.length,L.length) L∧St w' L r∧L.length≤16777215∧(∀ k,T w' k→T w k∨w.heap.size≤k)∧(∀ k,C w' k→C w k∨w.heap.size≤k) ∧
  ∃ X,E.Own w' w.heap.size (.slice a L.length L.length) X∧X.length=L.length∧(∀ k,(Value.slice a L.length L.length).ownBlock=some k→¬ T w' k)∧∀ (j:Nat) x d,X[j]?=some x→L[j]?=some d→R w' (fun k=>w.heap.size≤k∧¬ T w' k∧(Value.slice a L.length L.length).ownBlock≠some k) x d)
theorem anyG_le {Z r:List Int} {x:Int} (h:anyG Z=some (x,r)):∃ n:Nat,x=n∧n≤16777215∧r.length≤Z.length:=by
 obtain⟨n,k,_,rfl,h2,_,rfl,_⟩:=numG_some h
 exact⟨n,rfl,h2,by rw [List.length_drop];omega⟩
end
theorem repG_length {δ:Type} {one:Rdr δ}:∀ {k:Nat} {acc L:List δ} {Z r:List Int},repG one k acc Z=some (L,r)→L.length=acc.length+k
 | 0,acc,L,Z,r,h=>by
  simp only [repG] at h
  injection h with h
  injection h with h1
  rw [← h1]
  omega
 | k+1,acc,L,Z,r,h=>by
  unfold repG at h
  split at h
  ·cases h
  ·have:=repG_length h
   simp at this
   omega
def strVal (s:Str):Value:=.string s
def intVal (n:Int):Value:=.int .i64 n
def edgeVal (y:EdgeD):Value:=.agg #[.int .u8 y.1,.int .i64 y.2.1,.int .i64 y.2.2]
def stVal (y:Int × Sl × Sl):Value:=.agg #[.int .i64 y.1,.slice y.2.1.1 y.2.1.2.1 y.2.1.2.2,.slice y.2.2.1 y.2.2.2.1 y.2.2.2.2]
def lsVal (y:Int × Sl × Sl):Value:=.agg #[.int .u8 y.1,.slice y.2.1.1 y.2.1.2.1 y.2.1.2.2,.slice y.2.2.1 y.2.2.2.1 y.2.2.2.2]
theorem gotStr {δ:Type} {R:Rp Str δ} (hR:Good R) {pg gb:Nat} {C T:World→Nat→Prop} {St:World→List δ→List Int→Prop} (hS:Side pg gb C T St) (f:FuncId) (fa lb:Array Value) (one:Rdr δ) (eg:∀ args w,(callFunc f args).run Tryz.prog w=.ok (.enter f args) w)
  (hO:Reads f (fa++lb) one strE strVal R C T St) (w:World) (Z:List Int) (h:St w [] Z) :
  Calls Tryz.prog 103 #[.pointer (some ⟨pg,0,none⟩),.func (.func f) fa lb] w (GotPost one strE R C T St w Z):=by
 have HO:=jh hO
 have HR:=jh hR
 have HS:=jh hS
 have HST:=jh h
 have HG:=jh (hS.get h)
 clear hO hR hS h
 cases hn:anyG Z with
 | none =>
  have HF:Hid (listG one Z=none):=jh (by unfold listG;rw [hn])
  have HN:=jh (any_none w HG.out hn)
  clear hn
  go_enter Tryz.func103,Tryz.ntmps103
  go_wp2_with fail
  refine HN.out.mono ?_
  rintro e w1 ⟨rfl,hc⟩
  exact⟨rfl,hc.any,.inl ⟨HF.out,rfl⟩⟩
 | some p =>
  obtain⟨x,r⟩:=p
  obtain⟨n,rfl,hn2,-⟩:=anyG_le hn
  have HF:Hid (listG one Z=repG one n [] r):=jh (by unfold listG;rw [hn];rfl)
  have HN:=jh (any_some w HG.out hn)
  clear hn
  go_enter Tryz.func103,Tryz.ntmps103
  go_wp2_with fail
  refine HN.out.mono ?_
  rintro e w1 ⟨rfl,hg,hc⟩
  have HL0:Hid (LSt strE R C T St w w1 (.slice none 0 0) [] r []):=jh (LSt.start HS.out HST.out hg hc)
  clear hg hc HN
  go_wp2
  go_loopw [5,8] (fun v q wr=>∃ (k:Nat) (acc:List δ) (Zk:List Int) (X:List Str) (v0:Value),v0=v∧k≤n∧q=.int .i64 k∧acc.length=k∧repG one (n-k) acc Zk=repG one n [] r∧LSt strE R C T St w wr v0 acc Zk X) (fun _ q _=>n-(intOf q).toNat)
  case atStart=>exact⟨0,[],r,[],_,rfl,by omega,rfl,rfl,rfl,HL0.out⟩
  case round =>
   clear HL0
   obtain⟨k,acc,Zk,X,v,rfl,hk,rfl,ha,hrep,hl⟩:=hrel
   have HRP:=jh hrep
   have HL:=jh hl
   have HA:=jh ha
   clear hrep ha
   by_cases hkn:k<n
   ·have b9:decide ((k:Int)<(n:Int))=true:=by simp;omega
    have b9':decide (k<n)=true:=by simp;omega
    obtain⟨m,hm⟩:∃ m,n-k=m+1:=⟨n-k-1,by omega⟩
    have hm2:n-(k+1)=m:=by omega
    obtain⟨hO1,hO2⟩:=HO.out wr acc Zk hl.st (by have:=HA.out;omega)
    clear hl
    cases ho:one Zk with
    | none =>
     have HRN:Hid (listG one Z=none):=jh (by rw [HF.out,← HRP.out,hm];unfold repG;rw [ho])
     have HC1:=jh (hO1 ho)
     clear hO1 hO2 ho hm hm2
     go_wp2_with fail
     refine HC1.out.mono ?_
     rintro e w2 ⟨rfl,hc⟩
     refine⟨rfl,HL.out.chg.trans2 hc (fun j hj hC=>(HL.out.cg j hC).resolve_right (by omega)),.inl ⟨HRN.out,rfl⟩⟩
    | some p =>
     obtain⟨x,rx⟩:=p
     have HRN:Hid (repG one (n-(k+1)) (acc++[x]) rx=repG one n [] r):=jh (by rw [← HRP.out,hm,hm2];conv=>rhs;unfold repG;rw [ho])
     have HC1:=jh (hO2 x rx ho)
     clear hO1 hO2 ho hm hm2
     go_wp2_with fail
     refine HC1.out.mono ?_
     rintro e w2 ⟨y,rfl,hy,hry,hst,hc,htg,hcg⟩
     simp only [strVal]
     have HOWN:Hid (strE.Own w2 w.heap.size v X):=jh (HL.out.own.chgB hc (fun g hg hC=>HL.out.ob g hg (HS.out.sub hC)))
     have HLB:Hid (w.heap.size≤w2.heap.size):=jh (Nat.le_trans HL.out.chg.size hc.size)
     have HY:Hid (∀ x∈[y],strE.ok x):=jh (fun a ha=>by rw [List.mem_singleton] at ha;rw [ha];exact hy)
     have HXL:Hid (X.length≤16777215):=jh (by rw [HL.out.len,HA.out];omega)
     have HRY:=jh hry
     have HST2:=jh hst
     have HC:=jh hc
     have HTG:=jh htg
     have HCG:=jh hcg
     clear hy hry hst hc htg hcg HC1
     go_wp2_with (at_builtin;refine Elt.wpList_append2 strE rfl _ _ 22 22 rfl rfl w.heap.size v X [y] (.slice (some ⟨w2.heap.size,0,none⟩) 1 1) rfl rfl (HOWN.out.chg ((Chg.refl (fun _=>False) _).alloc _) (fun _ _ _ h=>h)) (by have:=HLB.out;simp;omega) (strE.srcLit 1 HY.out) HY.out (by have:=HXL.out;simp;omega) ?_;intro v' w4 HO4 HC4 HB4)
     have HL4:=jh (LSt.step HR.out HS.out _ HL.out HRY.out HST2.out HC.out HTG.out HCG.out HO4.out HB4.out)
     go_roundw
     case rel=>exact⟨k+1,acc++[x],rx,X++[y],_,rfl,by omega,by go_num,by simp [HA.out],HRN.out,HL4.out⟩
     case measure=>simp [intOf];omega
   ·obtain rfl:k=n:=by omega
    have b9:decide ((k:Int)<(k:Int))=false:=by simp
    obtain⟨a,c,hv,hac,hfin⟩:=hl.final HR.out
    subst hv
    have HFIN:=jh hfin
    have HLR:Hid (listG one Z=some (acc,Zk)):=jh (by rw [HF.out,← HRP.out,Nat.sub_self];rfl)
    clear hfin hl
    go_wp2_with fail
    refine (clipStr wr a acc.length c hac).mono ?_
    rintro e w3 ⟨rfl,rfl⟩
    go_wp2
    go_ret
    exact⟨HL.out.chg,.inr ⟨acc,Zk,a,HLR.out,rfl,HFIN.out,HL.out.st,by rw [HA.out];omega,HL.out.tg,HL.out.cg,HL.out.finalX⟩⟩
theorem gotInt {δ:Type} {R:Rp Int δ} (hR:Good R) {pg gb:Nat} {C T:World→Nat→Prop} {St:World→List δ→List Int→Prop} (hS:Side pg gb C T St) (f:FuncId) (fa lb:Array Value) (one:Rdr δ) (eg:∀ args w,(callFunc f args).run Tryz.prog w=.ok (.enter f args) w)
  (hO:Reads f (fa++lb) one intE intVal R C T St) (w:World) (Z:List Int) (h:St w [] Z) :
  Calls Tryz.prog 147 #[.pointer (some ⟨pg,0,none⟩),.func (.func f) fa lb] w (GotPost one intE R C T St w Z):=by
 have HO:=jh hO
 have HR:=jh hR
 have HS:=jh hS
 have HST:=jh h
 have HG:=jh (hS.get h)
 clear hO hR hS h
 cases hn:anyG Z with
 | none =>
  have HF:Hid (listG one Z=none):=jh (by unfold listG;rw [hn])
  have HN:=jh (any_none w HG.out hn)
  clear hn
  go_enter Tryz.func147,Tryz.ntmps147
  go_wp2_with fail
  refine HN.out.mono ?_
  rintro e w1 ⟨rfl,hc⟩
  exact⟨rfl,hc.any,.inl ⟨HF.out,rfl⟩⟩
 | some p =>
  obtain⟨x,r⟩:=p
  obtain⟨n,rfl,hn2,-⟩:=anyG_le hn
  have HF:Hid (listG one Z=repG one n [] r):=jh (by unfold listG;rw [hn];rfl)
  have HN:=jh (any_some w HG.out hn)
  clear hn
  go_enter Tryz.func147,Tryz.ntmps147
  go_wp2_with fail
  refine HN.out.mono ?_
  rintro e w1 ⟨rfl,hg,hc⟩
  have HL0:Hid (LSt intE R C T St w w1 (.slice none 0 0) [] r []):=jh (LSt.start HS.out HST.out hg hc)
  clear hg hc HN
  go_wp2
  go_loopw [5,8] (fun v q wr=>∃ (k:Nat) (acc:List δ) (Zk:List Int) (X:List Int) (v0:Value),v0=v∧k≤n∧q=.int .i64 k∧acc.length=k∧repG one (n-k) acc Zk=repG one n [] r∧LSt intE R C T St w wr v0 acc Zk X) (fun _ q _=>n-(intOf q).toNat)
  case atStart=>exact⟨0,[],r,[],_,rfl,by omega,rfl,rfl,rfl,HL0.out⟩
  case round =>
   clear HL0
   obtain⟨k,acc,Zk,X,v,rfl,hk,rfl,ha,hrep,hl⟩:=hrel
   have HRP:=jh hrep
   have HL:=jh hl
   have HA:=jh ha
   clear hrep ha
   by_cases hkn:k<n
   ·have b9:decide ((k:Int)<(n:Int))=true:=by simp;omega
    have b9':decide (k<n)=true:=by simp;omega
    obtain⟨m,hm⟩:∃ m,n-k=m+1:=⟨n-k-1,by omega⟩
    have hm2:n-(k+1)=m:=by omega
    obtain⟨hO1,hO2⟩:=HO.out wr acc Zk hl.st (by have:=HA.out;omega)
    clear hl
    cases ho:one Zk with
    | none =>
     have HRN:Hid (listG one Z=none):=jh (by rw [HF.out,← HRP.out,hm];unfold repG;rw [ho])
     have HC1:=jh (hO1 ho)
     clear hO1 hO2 ho hm hm2
     go_wp2_with fail
     refine HC1.out.mono ?_
     rintro e w2 ⟨rfl,hc⟩
     refine⟨rfl,HL.out.chg.trans2 hc (fun j hj hC=>(HL.out.cg j hC).resolve_right (by omega)),.inl ⟨HRN.out,rfl⟩⟩
    | some p =>
     obtain⟨x,rx⟩:=p
     have HRN:Hid (repG one (n-(k+1)) (acc++[x]) rx=repG one n [] r):=jh (by rw [← HRP.out,hm,hm2];conv=>rhs;unfold repG;rw [ho])
     have HC1:=jh (hO2 x rx ho)
     clear hO1 hO2 ho hm hm2
     go_wp2_with fail
     refine HC1.out.mono ?_
     rintro e w2 ⟨y,rfl,hy,hry,hst,hc,htg,hcg⟩
     simp only [intVal]
     have HOWN:Hid (intE.Own w2 w.heap.size v X):=jh (HL.out.own.chgB hc (fun g hg hC=>HL.out.ob g hg (HS.out.sub hC)))
     have HLB:Hid (w.heap.size≤w2.heap.size):=jh (Nat.le_trans HL.out.chg.size hc.size)
     have HY:Hid (∀ x∈[y],intE.ok x):=jh (fun a ha=>by rw [List.mem_singleton] at ha;rw [ha];exact hy)
     have HXL:Hid (X.length≤16777215):=jh (by rw [HL.out.len,HA.out];omega)
     have HRY:=jh hry
     have HST2:=jh hst
     have HC:=jh hc
     have HTG:=jh htg
     have HCG:=jh hcg
     clear hy hry hst hc htg hcg HC1
     go_wp2_with (at_builtin;refine Elt.wpList_append2 intE rfl _ _ 25 25 rfl rfl w.heap.size v X [y] (.slice (some ⟨w2.heap.size,0,none⟩) 1 1) rfl rfl (HOWN.out.chg ((Chg.refl (fun _=>False) _).alloc _) (fun _ _ _ h=>h)) (by have:=HLB.out;simp;omega) (intE.srcLit 1 HY.out) HY.out (by have:=HXL.out;simp;omega) ?_;intro v' w4 HO4 HC4 HB4)
     have HL4:=jh (LSt.step HR.out HS.out _ HL.out HRY.out HST2.out HC.out HTG.out HCG.out HO4.out HB4.out)
     go_roundw
     case rel=>exact⟨k+1,acc++[x],rx,X++[y],_,rfl,by omega,by go_num,by simp [HA.out],HRN.out,HL4.out⟩
     case measure=>simp [intOf];omega
   ·obtain rfl:k=n:=by omega
    have b9:decide ((k:Int)<(k:Int))=false:=by simp
    obtain⟨a,c,hv,hac,hfin⟩:=hl.final HR.out
    subst hv
    have HFIN:=jh hfin
    have HLR:Hid (listG one Z=some (acc,Zk)):=jh (by rw [HF.out,← HRP.out,Nat.sub_self];rfl)
    clear hfin hl
    go_wp2_with fail
    refine (clipInt wr a acc.length c hac).mono ?_
    rintro e w3 ⟨rfl,rfl⟩
    go_wp2
    go_ret
    exact⟨HL.out.chg,.inr ⟨acc,Zk,a,HLR.out,rfl,HFIN.out,HL.out.st,by rw [HA.out];omega,HL.out.tg,HL.out.cg,HL.out.finalX⟩⟩
theorem gotEdge {δ:Type} {R:Rp EdgeD δ} (hR:Good R) {pg gb:Nat} {C T:World→Nat→Prop} {St:World→List δ→List Int→Prop} (hS:Side pg gb C T St) (f:FuncId) (fa lb:Array Value) (one:Rdr δ) (eg:∀ args w,(callFunc f args).run Tryz.prog w=.ok (.enter f args) w)
  (hO:Reads f (fa++lb) one edgeE edgeVal R C T St) (w:World) (Z:List Int) (h:St w [] Z) :
  Calls Tryz.prog 171 #[.pointer (some ⟨pg,0,none⟩),.func (.func f) fa lb] w (GotPost one edgeE R C T St w Z):=by
 have HO:=jh hO
 have HR:=jh hR
 have HS:=jh hS
 have HST:=jh h
 have HG:=jh (hS.get h)
 clear hO hR hS h
 cases hn:anyG Z with
 | none =>
  have HF:Hid (listG one Z=none):=jh (by unfold listG;rw [hn])
  have HN:=jh (any_none w HG.out hn)
  clear hn
  go_enter Tryz.func171,Tryz.ntmps171
  go_wp2_with fail
  refine HN.out.mono ?_
  rintro e w1 ⟨rfl,hc⟩
  exact⟨rfl,hc.any,.inl ⟨HF.out,rfl⟩⟩
 | some p =>
  obtain⟨x,r⟩:=p
  obtain⟨n,rfl,hn2,-⟩:=anyG_le hn
  have HF:Hid (listG one Z=repG one n [] r):=jh (by unfold listG;rw [hn];rfl)
  have HN:=jh (any_some w HG.out hn)
  clear hn
  go_enter Tryz.func171,Tryz.ntmps171
  go_wp2_with fail
  refine HN.out.mono ?_
  rintro e w1 ⟨rfl,hg,hc⟩
  have HL0:Hid (LSt edgeE R C T St w w1 (.slice none 0 0) [] r []):=jh (LSt.start HS.out HST.out hg hc)
  clear hg hc HN
  go_wp2
  go_loopw [5,8] (fun v q wr=>∃ (k:Nat) (acc:List δ) (Zk:List Int) (X:List EdgeD) (v0:Value),v0=v∧k≤n∧q=.int .i64 k∧acc.length=k∧repG one (n-k) acc Zk=repG one n [] r∧LSt edgeE R C T St w wr v0 acc Zk X) (fun _ q _=>n-(intOf q).toNat)
  case atStart=>exact⟨0,[],r,[],_,rfl,by omega,rfl,rfl,rfl,HL0.out⟩
  case round =>
   clear HL0
   obtain⟨k,acc,Zk,X,v,rfl,hk,rfl,ha,hrep,hl⟩:=hrel
   have HRP:=jh hrep
   have HL:=jh hl
   have HA:=jh ha
   clear hrep ha
   by_cases hkn:k<n
   ·have b9:decide ((k:Int)<(n:Int))=true:=by simp;omega
    have b9':decide (k<n)=true:=by simp;omega
    obtain⟨m,hm⟩:∃ m,n-k=m+1:=⟨n-k-1,by omega⟩
    have hm2:n-(k+1)=m:=by omega
    obtain⟨hO1,hO2⟩:=HO.out wr acc Zk hl.st (by have:=HA.out;omega)
    clear hl
    cases ho:one Zk with
    | none =>
     have HRN:Hid (listG one Z=none):=jh (by rw [HF.out,← HRP.out,hm];unfold repG;rw [ho])
     have HC1:=jh (hO1 ho)
     clear hO1 hO2 ho hm hm2
     go_wp2_with fail
     refine HC1.out.mono ?_
     rintro e w2 ⟨rfl,hc⟩
     refine⟨rfl,HL.out.chg.trans2 hc (fun j hj hC=>(HL.out.cg j hC).resolve_right (by omega)),.inl ⟨HRN.out,rfl⟩⟩
    | some p =>
     obtain⟨x,rx⟩:=p
     have HRN:Hid (repG one (n-(k+1)) (acc++[x]) rx=repG one n [] r):=jh (by rw [← HRP.out,hm,hm2];conv=>rhs;unfold repG;rw [ho])
     have HC1:=jh (hO2 x rx ho)
     clear hO1 hO2 ho hm hm2
     go_wp2_with fail
     refine HC1.out.mono ?_
     rintro e w2 ⟨y,rfl,hy,hry,hst,hc,htg,hcg⟩
     simp only [edgeVal]
     have HOWN:Hid (edgeE.Own w2 w.heap.size v X):=jh (HL.out.own.chgB hc (fun g hg hC=>HL.out.ob g hg (HS.out.sub hC)))
     have HLB:Hid (w.heap.size≤w2.heap.size):=jh (Nat.le_trans HL.out.chg.size hc.size)
     have HY:Hid (∀ x∈[y],edgeE.ok x):=jh (fun a ha=>by rw [List.mem_singleton] at ha;rw [ha];exact hy)
     have HXL:Hid (X.length≤16777215):=jh (by rw [HL.out.len,HA.out];omega)
     have HRY:=jh hry
     have HST2:=jh hst
     have HC:=jh hc
     have HTG:=jh htg
     have HCG:=jh hcg
     clear hy hry hst hc htg hcg HC1
     go_wp2_with (at_builtin;refine Elt.wpList_append2 edgeE rfl _ _ 72 72 rfl rfl w.heap.size v X [y] (.slice (some ⟨w2.heap.size,0,none⟩) 1 1) rfl rfl (HOWN.out.chg ((Chg.refl (fun _=>False) _).alloc _) (fun _ _ _ h=>h)) (by have:=HLB.out;simp;omega) (edgeE.srcLit 1 HY.out) HY.out (by have:=HXL.out;simp;omega) ?_;intro v' w4 HO4 HC4 HB4)
     have HL4:=jh (LSt.step HR.out HS.out _ HL.out HRY.out HST2.out HC.out HTG.out HCG.out HO4.out HB4.out)
     go_roundw
     case rel=>exact⟨k+1,acc++[x],rx,X++[y],_,rfl,by omega,by go_num,by simp [HA.out],HRN.out,HL4.out⟩
     case measure=>simp [intOf];omega
   ·obtain rfl:k=n:=by omega
    have b9:decide ((k:Int)<(k:Int))=false:=by simp
    obtain⟨a,c,hv,hac,hfin⟩:=hl.final HR.out
    subst hv
    have HFIN:=jh hfin
    have HLR:Hid (listG one Z=some (acc,Zk)):=jh (by rw [HF.out,← HRP.out,Nat.sub_self];rfl)
    clear hfin hl
    go_wp2_with fail
    refine (clipEdge wr a acc.length c hac).mono ?_
    rintro e w3 ⟨rfl,rfl⟩
    go_wp2
    go_ret
    exact⟨HL.out.chg,.inr ⟨acc,Zk,a,HLR.out,rfl,HFIN.out,HL.out.st,by rw [HA.out];omega,HL.out.tg,HL.out.cg,HL.out.finalX⟩⟩
theorem gotSt {δ:Type} {R:Rp (Int × Sl × Sl) δ} (hR:Good R) {pg gb:Nat} {C T:World→Nat→Prop} {St:World→List δ→List Int→Prop} (hS:Side pg gb C T St) (f:FuncId) (fa lb:Array Value) (one:Rdr δ) (eg:∀ args w,(callFunc f args).run Tryz.prog w=.ok (.enter f args) w)
  (hO:Reads f (fa++lb) one stE stVal R C T St) (w:World) (Z:List Int) (h:St w [] Z) :
  Calls Tryz.prog 145 #[.pointer (some ⟨pg,0,none⟩),.func (.func f) fa lb] w (GotPost one stE R C T St w Z):=by
 have HO:=jh hO
 have HR:=jh hR
 have HS:=jh hS
 have HST:=jh h
 have HG:=jh (hS.get h)
 clear hO hR hS h
 cases hn:anyG Z with
 | none =>
  have HF:Hid (listG one Z=none):=jh (by unfold listG;rw [hn])
  have HN:=jh (any_none w HG.out hn)
  clear hn
  go_enter Tryz.func145,Tryz.ntmps145
  go_wp2_with fail
  refine HN.out.mono ?_
  rintro e w1 ⟨rfl,hc⟩
  exact⟨rfl,hc.any,.inl ⟨HF.out,rfl⟩⟩
 | some p =>
  obtain⟨x,r⟩:=p
  obtain⟨n,rfl,hn2,-⟩:=anyG_le hn
  have HF:Hid (listG one Z=repG one n [] r):=jh (by unfold listG;rw [hn];rfl)
  have HN:=jh (any_some w HG.out hn)
  clear hn
  go_enter Tryz.func145,Tryz.ntmps145
  go_wp2_with fail
  refine HN.out.mono ?_
  rintro e w1 ⟨rfl,hg,hc⟩
  have HL0:Hid (LSt stE R C T St w w1 (.slice none 0 0) [] r []):=jh (LSt.start HS.out HST.out hg hc)
  clear hg hc HN
  go_wp2
  go_loopw [5,8] (fun v q wr=>∃ (k:Nat) (acc:List δ) (Zk:List Int) (X:List (Int × Sl × Sl)) (v0:Value),v0=v∧k≤n∧q=.int .i64 k∧acc.length=k∧repG one (n-k) acc Zk=repG one n [] r∧LSt stE R C T St w wr v0 acc Zk X) (fun _ q _=>n-(intOf q).toNat)
  case atStart=>exact⟨0,[],r,[],_,rfl,by omega,rfl,rfl,rfl,HL0.out⟩
  case round =>
   clear HL0
   obtain⟨k,acc,Zk,X,v,rfl,hk,rfl,ha,hrep,hl⟩:=hrel
   have HRP:=jh hrep
   have HL:=jh hl
   have HA:=jh ha
   clear hrep ha
   by_cases hkn:k<n
   ·have b9:decide ((k:Int)<(n:Int))=true:=by simp;omega
    have b9':decide (k<n)=true:=by simp;omega
    obtain⟨m,hm⟩:∃ m,n-k=m+1:=⟨n-k-1,by omega⟩
    have hm2:n-(k+1)=m:=by omega
    obtain⟨hO1,hO2⟩:=HO.out wr acc Zk hl.st (by have:=HA.out;omega)
    clear hl
    cases ho:one Zk with
    | none =>
     have HRN:Hid (listG one Z=none):=jh (by rw [HF.out,← HRP.out,hm];unfold repG;rw [ho])
     have HC1:=jh (hO1 ho)
     clear hO1 hO2 ho hm hm2
     go_wp2_with fail
     refine HC1.out.mono ?_
     rintro e w2 ⟨rfl,hc⟩
     refine⟨rfl,HL.out.chg.trans2 hc (fun j hj hC=>(HL.out.cg j hC).resolve_right (by omega)),.inl ⟨HRN.out,rfl⟩⟩
    | some p =>
     obtain⟨x,rx⟩:=p
     have HRN:Hid (repG one (n-(k+1)) (acc++[x]) rx=repG one n [] r):=jh (by rw [← HRP.out,hm,hm2];conv=>rhs;unfold repG;rw [ho])
     have HC1:=jh (hO2 x rx ho)
     clear hO1 hO2 ho hm hm2
     go_wp2_with fail
     refine HC1.out.mono ?_
     rintro e w2 ⟨y,rfl,hy,hry,hst,hc,htg,hcg⟩
     simp only [stVal]
     have HOWN:Hid (stE.Own w2 w.heap.size v X):=jh (HL.out.own.chgB hc (fun g hg hC=>HL.out.ob g hg (HS.out.sub hC)))
     have HLB:Hid (w.heap.size≤w2.heap.size):=jh (Nat.le_trans HL.out.chg.size hc.size)
     have HY:Hid (∀ x∈[y],stE.ok x):=jh (fun a ha=>by rw [List.mem_singleton] at ha;rw [ha];exact hy)
     have HXL:Hid (X.length≤16777215):=jh (by rw [HL.out.len,HA.out];omega)
     have HRY:=jh hry
     have HST2:=jh hst
     have HC:=jh hc
     have HTG:=jh htg
     have HCG:=jh hcg
     clear hy hry hst hc htg hcg HC1
     go_wp2_with (at_builtin;refine Elt.wpList_append2 stE rfl _ _ 29 29 rfl rfl w.heap.size v X [y] (.slice (some ⟨w2.heap.size,0,none⟩) 1 1) rfl rfl (HOWN.out.chg ((Chg.refl (fun _=>False) _).alloc _) (fun _ _ _ h=>h)) (by have:=HLB.out;simp;omega) (stE.srcLit 1 HY.out) HY.out (by have:=HXL.out;simp;omega) ?_;intro v' w4 HO4 HC4 HB4)
     have HL4:=jh (LSt.step HR.out HS.out _ HL.out HRY.out HST2.out HC.out HTG.out HCG.out HO4.out HB4.out)
     go_roundw
     case rel=>exact⟨k+1,acc++[x],rx,X++[y],_,rfl,by omega,by go_num,by simp [HA.out],HRN.out,HL4.out⟩
     case measure=>simp [intOf];omega
   ·obtain rfl:k=n:=by omega
    have b9:decide ((k:Int)<(k:Int))=false:=by simp
    obtain⟨a,c,hv,hac,hfin⟩:=hl.final HR.out
    subst hv
    have HFIN:=jh hfin
    have HLR:Hid (listG one Z=some (acc,Zk)):=jh (by rw [HF.out,← HRP.out,Nat.sub_self];rfl)
    clear hfin hl
    go_wp2_with fail
    refine (clipSt wr a acc.length c hac).mono ?_
    rintro e w3 ⟨rfl,rfl⟩
    go_wp2
    go_ret
    exact⟨HL.out.chg,.inr ⟨acc,Zk,a,HLR.out,rfl,HFIN.out,HL.out.st,by rw [HA.out];omega,HL.out.tg,HL.out.cg,HL.out.finalX⟩⟩
theorem gotLs {δ:Type} {R:Rp (Int × Sl × Sl) δ} (hR:Good R) {pg gb:Nat} {C T:World→Nat→Prop} {St:World→List δ→List Int→Prop} (hS:Side pg gb C T St) (f:FuncId) (fa lb:Array Value) (one:Rdr δ) (eg:∀ args w,(callFunc f args).run Tryz.prog w=.ok (.enter f args) w)
  (hO:Reads f (fa++lb) one lsE lsVal R C T St) (w:World) (Z:List Int) (h:St w [] Z) :
  Calls Tryz.prog 148 #[.pointer (some ⟨pg,0,none⟩),.func (.func f) fa lb] w (GotPost one lsE R C T St w Z):=by
 have HO:=jh hO
 have HR:=jh hR
 have HS:=jh hS
 have HST:=jh h
 have HG:=jh (hS.get h)
 clear hO hR hS h
 cases hn:anyG Z with
 | none =>
  have HF:Hid (listG one Z=none):=jh (by unfold listG;rw [hn])
  have HN:=jh (any_none w HG.out hn)
  clear hn
  go_enter Tryz.func148,Tryz.ntmps148
  go_wp2_with fail
  refine HN.out.mono ?_
  rintro e w1 ⟨rfl,hc⟩
  exact⟨rfl,hc.any,.inl ⟨HF.out,rfl⟩⟩
 | some p =>
  obtain⟨x,r⟩:=p
  obtain⟨n,rfl,hn2,-⟩:=anyG_le hn
  have HF:Hid (listG one Z=repG one n [] r):=jh (by unfold listG;rw [hn];rfl)
  have HN:=jh (any_some w HG.out hn)
  clear hn
  go_enter Tryz.func148,Tryz.ntmps148
  go_wp2_with fail
  refine HN.out.mono ?_
  rintro e w1 ⟨rfl,hg,hc⟩
  have HL0:Hid (LSt lsE R C T St w w1 (.slice none 0 0) [] r []):=jh (LSt.start HS.out HST.out hg hc)
  clear hg hc HN
  go_wp2
  go_loopw [5,8] (fun v q wr=>∃ (k:Nat) (acc:List δ) (Zk:List Int) (X:List (Int × Sl × Sl)) (v0:Value),v0=v∧k≤n∧q=.int .i64 k∧acc.length=k∧repG one (n-k) acc Zk=repG one n [] r∧LSt lsE R C T St w wr v0 acc Zk X) (fun _ q _=>n-(intOf q).toNat)
  case atStart=>exact⟨0,[],r,[],_,rfl,by omega,rfl,rfl,rfl,HL0.out⟩
  case round =>
   clear HL0
   obtain⟨k,acc,Zk,X,v,rfl,hk,rfl,ha,hrep,hl⟩:=hrel
   have HRP:=jh hrep
   have HL:=jh hl
   have HA:=jh ha
   clear hrep ha
   by_cases hkn:k<n
   ·have b9:decide ((k:Int)<(n:Int))=true:=by simp;omega
    have b9':decide (k<n)=true:=by simp;omega
    obtain⟨m,hm⟩:∃ m,n-k=m+1:=⟨n-k-1,by omega⟩
    have hm2:n-(k+1)=m:=by omega
    obtain⟨hO1,hO2⟩:=HO.out wr acc Zk hl.st (by have:=HA.out;omega)
    clear hl
    cases ho:one Zk with
    | none =>
     have HRN:Hid (listG one Z=none):=jh (by rw [HF.out,← HRP.out,hm];unfold repG;rw [ho])
     have HC1:=jh (hO1 ho)
     clear hO1 hO2 ho hm hm2
     go_wp2_with fail
     refine HC1.out.mono ?_
     rintro e w2 ⟨rfl,hc⟩
     refine⟨rfl,HL.out.chg.trans2 hc (fun j hj hC=>(HL.out.cg j hC).resolve_right (by omega)),.inl ⟨HRN.out,rfl⟩⟩
    | some p =>
     obtain⟨x,rx⟩:=p
     have HRN:Hid (repG one (n-(k+1)) (acc++[x]) rx=repG one n [] r):=jh (by rw [← HRP.out,hm,hm2];conv=>rhs;unfold repG;rw [ho])
     have HC1:=jh (hO2 x rx ho)
     clear hO1 hO2 ho hm hm2
     go_wp2_with fail
     refine HC1.out.mono ?_
     rintro e w2 ⟨y,rfl,hy,hry,hst,hc,htg,hcg⟩
     simp only [lsVal]
     have HOWN:Hid (lsE.Own w2 w.heap.size v X):=jh (HL.out.own.chgB hc (fun g hg hC=>HL.out.ob g hg (HS.out.sub hC)))
     have HLB:Hid (w.heap.size≤w2.heap.size):=jh (Nat.le_trans HL.out.chg.size hc.size)
     have HY:Hid (∀ x∈[y],lsE.ok x):=jh (fun a ha=>by rw [List.mem_singleton] at ha;rw [ha];exact hy)
     have HXL:Hid (X.length≤16777215):=jh (by rw [HL.out.len,HA.out];omega)
     have HRY:=jh hry
     have HST2:=jh hst
     have HC:=jh hc
     have HTG:=jh htg
     have HCG:=jh hcg
     clear hy hry hst hc htg hcg HC1
     go_wp2_with (at_builtin;refine Elt.wpList_append2 lsE rfl _ _ 61 61 rfl rfl w.heap.size v X [y] (.slice (some ⟨w2.heap.size,0,none⟩) 1 1) rfl rfl (HOWN.out.chg ((Chg.refl (fun _=>False) _).alloc _) (fun _ _ _ h=>h)) (by have:=HLB.out;simp;omega) (lsE.srcLit 1 HY.out) HY.out (by have:=HXL.out;simp;omega) ?_;intro v' w4 HO4 HC4 HB4)
     have HL4:=jh (LSt.step HR.out HS.out _ HL.out HRY.out HST2.out HC.out HTG.out HCG.out HO4.out HB4.out)
     go_roundw
     case rel=>exact⟨k+1,acc++[x],rx,X++[y],_,rfl,by omega,by go_num,by simp [HA.out],HRN.out,HL4.out⟩
     case measure=>simp [intOf];omega
   ·obtain rfl:k=n:=by omega
    have b9:decide ((k:Int)<(k:Int))=false:=by simp
    obtain⟨a,c,hv,hac,hfin⟩:=hl.final HR.out
    subst hv
    have HFIN:=jh hfin
    have HLR:Hid (listG one Z=some (acc,Zk)):=jh (by rw [HF.out,← HRP.out,Nat.sub_self];rfl)
    clear hfin hl
    go_wp2_with fail
    refine (clipLs wr a acc.length c hac).mono ?_
    rintro e w3 ⟨rfl,rfl⟩
    go_wp2
    go_ret
    exact⟨HL.out.chg,.inr ⟨acc,Zk,a,HLR.out,rfl,HFIN.out,HL.out.st,by rw [HA.out];omega,HL.out.tg,HL.out.cg,HL.out.finalX⟩⟩
end Go.Proofs.YtgnpmceimpjheaaGreat
namespace Go.Proofs.YtgnpmceimpjheaaGreat
open Go.RowKit
section
variable {β δ:Type}
def C0 (pg:Nat):World→Nat→Prop:=fun _ k=>k=pg
def T0 (pg gb:Nat):World→Nat→Prop:=fun _ k=>k=pg∨k=gb
def S0 (δ:Type) (pg gb:Nat):World→List δ→List Int→Prop:=fun w _ Z=>GetSt pg gb w Z
theorem side0 (pg gb:Nat):Side pg gb (C0 pg) (T0 pg gb) (S0 δ pg gb) where
 get:=fun h=>h
 pgC:=fun _=>rfl
 sub:=fun h=>.inl h
 lt:=fun {w acc Z k} h ht=>by rcases ht with rfl|rfl;exact h.lt;exact h.lb
 keep:=fun h hc hs=>⟨h.chg hc (fun e=>hs _ e (.inl rfl)) (fun e=>hs _ e (.inr rfl)),fun _ h=>h,fun _ h=>h⟩
 move:=fun _ hg _=>⟨hg,fun _ h=>h,fun _ h=>h⟩
def ReadPost (pg gb:Nat) (one:Rdr δ) (E:Elt β) (val:β→Value) (R:Rp β δ) (w:World) (Z:List Int) (e:Ending) (w':World):Prop :=
 Chg (·=pg) w w'∧((one Z=none∧e=strangeP)∨∃ x r y,one Z=some (x,r)∧e=.returned (val y)∧E.ok y∧R w' (fun k=>w.heap.size≤k) y x∧GetSt pg gb w' r)
theorem reads0 {pg gb:Nat} {f:FuncId} {fa:Array Value} {one:Rdr δ} {E:Elt β} {val:β→Value} {R:Rp β δ} (hR:Good R) (h:∀ w Z,GetSt pg gb w Z→Calls Tryz.prog f fa w (ReadPost pg gb one E val R w Z)):Reads f fa one E val R (C0 pg) (T0 pg gb) (S0 δ pg gb):=by
 intro w acc Z hst _
 refine⟨fun hn=>(h w Z hst).mono ?_,fun x r hs=>(h w Z hst).mono ?_⟩
 ·rintro e w' ⟨hc,⟨_,rfl⟩|⟨x,r,y,h1,_⟩⟩
  ·exact⟨rfl,hc⟩
  ·rw [hn] at h1;cases h1
 ·rintro e w' ⟨hc,⟨h1,_⟩|⟨x',r',y,h1,rfl,h2,h3,h4⟩⟩
  ·rw [hs] at h1;cases h1
  ·rw [hs] at h1
   injection h1 with h1
   injection h1 with e1 e2
   subst e1 e2
   refine⟨y,rfl,h2,hR.mono h3 (fun k _ hk=>⟨hk,fun ht=>?_⟩),h4,hc,fun k hk=>.inl hk,fun k hk=>.inl hk⟩
   have h5:=GetSt.lt hst
   have h6:=GetSt.lb hst
   rcases ht with rfl|rfl <;> omega
def ListPost (pg gb:Nat) (one:Rdr δ) (E:Elt β) (R:Rp β δ) (w:World) (Z:List Int) (e:Ending) (w':World):Prop :=
 Chg (·=pg) w w'∧((listG one Z=none∧e=strangeP)∨∃ L r a,listG one Z=some (L,r)∧e=.returned (.slice a L.length L.length)∧ListR E R w' (fun k=>w.heap.size≤k) (a,L.length,L.length) L∧GetSt pg gb w' r∧L.length≤16777215)
theorem GotPost.list {pg gb:Nat} {one:Rdr δ} {E:Elt β} {R:Rp β δ} (hR:Good R) {w w':World} {Z:List Int} {e:Ending} (h:GotPost one E R (C0 pg) (T0 pg gb) (S0 δ pg gb) w Z e w'):ListPost pg gb one E R w Z e w':=by
 obtain⟨hc,h⟩:=h
 refine⟨hc,?_⟩
 rcases h with h|⟨L,r,a,h1,h2,h3,h4,h5,-⟩
 ·exact .inl h
 ·exact .inr ⟨L,r,a,h1,h2,(ListR.good hR).mono h3 (fun k _ hs=>hs.1),h4,h5⟩
end
def NumPost (pg gb:Nat) (one:Rdr Int) (m:Nat) (w:World) (Z:List Int) (e:Ending) (w':World):Prop :=
 Chg (·=pg) w w'∧((one Z=none∧e=strangeP)∨∃ (x:Nat) (r:List Int),one Z=some ((x:Int),r)∧e=.returned (.int .i64 x)∧x≤m∧GetSt pg gb w' r)
theorem gnum_any {pg gb m:Nat} {Z:List Int} (w:World) (h:GetSt pg gb w Z):Calls Tryz.prog 106 #[.pointer (some ⟨pg,0,none⟩),.int .i64 m] w (NumPost pg gb (numG m) m w Z):=by
 cases hn:numG m Z with
 | none=>exact (gnum_none w h hn).mono (fun e w' hp=>⟨hp.2.any,.inl ⟨hn,hp.1⟩⟩)
 | some p =>
  obtain⟨x,r⟩:=p
  obtain⟨n,k,_,rfl,hm,_⟩:=numG_some hn
  exact (gnum_some w h hn).mono (fun e w' hp=>⟨hp.2.2,.inr ⟨n,r,hn,hp.1,hm,hp.2.1⟩⟩)
theorem any_any {pg gb:Nat} {Z:List Int} (w:World) (h:GetSt pg gb w Z):Calls Tryz.prog 139 #[.pointer (some ⟨pg,0,none⟩)] w (NumPost pg gb anyG 16777215 w Z):=by
 cases hn:anyG Z with
 | none=>exact (any_none w h hn).mono (fun e w' hp=>⟨hp.2.any,.inl ⟨hn,hp.1⟩⟩)
 | some p =>
  obtain⟨x,r⟩:=p
  obtain⟨n,k,_,rfl,hm,_⟩:=numG_some hn
  exact (any_some w h hn).mono (fun e w' hp=>⟨hp.2.2,.inr ⟨n,r,hn,hp.1,hm,hp.2.1⟩⟩)
theorem any_read {pg gb:Nat} (w:World) (Z:List Int) (h:GetSt pg gb w Z):Calls Tryz.prog 139 #[.pointer (some ⟨pg,0,none⟩)] w (ReadPost pg gb anyG intE intVal eqR w Z):=by
 refine (any_any w h).mono ?_
 rintro e w' ⟨hc,⟨h1,h2⟩|⟨x,r,h1,h2,h3,h4⟩⟩
 ·exact⟨hc,.inl ⟨h1,h2⟩⟩
 ·exact⟨hc,.inr ⟨x,r,x,h1,h2,⟨by omega,by omega⟩,rfl,h4⟩⟩
theorem text_read {pg gb:Nat} (w:World) (Z:List Int) (h:GetSt pg gb w Z):Calls Tryz.prog 104 #[.pointer (some ⟨pg,0,none⟩)] w (ReadPost pg gb textG strE strVal eqR w Z):=by
 cases hn:textG Z with
 | none=>exact (text_none w h hn).mono (fun e w' hp=>⟨hp.2,.inl ⟨hn,hp.1⟩⟩)
 | some p =>
  obtain⟨x,r⟩:=p
  exact (text_some w h hn).mono (fun e w' hp=>⟨hp.2.2,.inr ⟨x,r,x,hn,hp.1,trivial,rfl,hp.2.1⟩⟩)
theorem reads0' {β δ:Type} {pg gb:Nat} {f:FuncId} {fa:Array Value} {one:Rdr δ} {E:Elt β} {val:β→Value} {R:Rp β δ} (hR:Good R) (h:∀ w Z,GetSt pg gb w Z→Calls Tryz.prog f fa w (ReadPost pg gb one E val R w Z)):Reads f (fa++#[]) one E val R (C0 pg) (T0 pg gb) (S0 δ pg gb):=by
 rw [Array.append_empty]
 exact reads0 hR h
theorem anys_any {pg gb:Nat} (w:World) (Z:List Int) (h:GetSt pg gb w Z):Calls Tryz.prog 147 #[.pointer (some ⟨pg,0,none⟩),.func (.func 139) #[.pointer (some ⟨pg,0,none⟩)] #[]] w (ListPost pg gb anyG intE eqR w Z):=by
 have eg:=enters_of Tryz.func139 (by kernel_rfl) rfl
 have hO:=reads0' (pg:=pg) (gb:=gb) (f:=139) (fa:=#[.pointer (some ⟨pg,0,none⟩)]) (E:=intE) (val:=intVal) (δ:=Int) eqR.good (fun w Z h=>any_read w Z h)
 exact (gotInt eqR.good (side0 pg gb) _ _ _ anyG eg hO w Z h).mono (fun _ _ hp=>hp.list eqR.good)
theorem texts_any {pg gb:Nat} (w:World) (Z:List Int) (h:GetSt pg gb w Z):Calls Tryz.prog 103 #[.pointer (some ⟨pg,0,none⟩),.func (.func 104) #[.pointer (some ⟨pg,0,none⟩)] #[]] w (ListPost pg gb textG strE eqR w Z):=by
 have eg:=enters_of Tryz.func104 (by kernel_rfl) rfl
 have hO:=reads0' (pg:=pg) (gb:=gb) (f:=104) (fa:=#[.pointer (some ⟨pg,0,none⟩)]) (E:=strE) (val:=strVal) (δ:=Str) eqR.good (fun w Z h=>text_read w Z h)
 exact (gotStr eqR.good (side0 pg gb) _ _ _ textG eg hO w Z h).mono (fun _ _ hp=>hp.list eqR.good)
theorem edgeOk {k x t:Nat} (hk:k≤3) (hx:x≤16777215) (ht:t≤16777215):edgeE.ok ((k:Int),(x:Int),(t:Int)):=by
 show (0≤(k:Int)∧(k:Int)≤255)∧(-9223372036854775808≤(x:Int)∧(x:Int)≤9223372036854775807)∧(-9223372036854775808≤(t:Int)∧(t:Int)≤9223372036854775807)
 omega
theorem edge_read {pg gb:Nat} (w:World) (Z:List Int) (h:GetSt pg gb w Z):Calls Tryz.prog 172 #[.pointer (some ⟨pg,0,none⟩)] w (ReadPost pg gb edgeG edgeE edgeVal eqR w Z):=by
 have HG:=jh h
 clear h
 go_enter Tryz.func172,Tryz.ntmps172
 go_wp2_with fail
 refine (gnum_any _ (HG.out.fresh ((Chg.refl _ _).alloc _))).mono ?_
 rintro e w1 ⟨hc,⟨h1,rfl⟩|⟨k,r1,h1,rfl,hk,hg⟩⟩
 ·exact⟨rfl,((Chg.refl _ w).alloc _).trans hc,.inl ⟨by simp only [edgeG,h1],rfl⟩⟩
 have HC1:=jh (((Chg.refl _ w).alloc _).trans hc)
 have HK:Hid (k≤3):=jh hk
 have HCL:Hid (∀ S w',Chg S (w.alloc (.cells #[.int .u8 0,.int .i64 0,.int .i64 0] 71)) w'→¬ S w.heap.size→w'.cell? ⟨w.heap.size,0,none⟩=some (.int .u8 0)∧w'.cell? ⟨w.heap.size,1,none⟩=some (.int .i64 0)∧w'.cell? ⟨w.heap.size,2,none⟩=some (.int .i64 0)∧∀ j,w'.frozen? ⟨w.heap.size,j,none⟩=false) :=
  jh fun S w' hc hs=>⟨hc.cellS (by simp) hs,hc.cellS (by simp) hs,hc.cellS (by simp) hs,fun j=>(hc.frozen (p:=⟨w.heap.size,j,none⟩) (by simp) hs).trans (World.frozen?_alloc_new _ _ _ _)⟩
 have HPG:Hid (pg<w.heap.size∧gb<w.heap.size):=jh ⟨HG.out.lt,HG.out.lb⟩
 have H1:=jh h1
 clear h1
 go_wp2_with fail
 refine (any_any _ hg).mono ?_
 rintro e w2 ⟨hc2,⟨h2,rfl⟩|⟨x,r2,h2,rfl,hx,hg2⟩⟩
 ·exact⟨rfl,HC1.out.trans hc2,.inl ⟨by simp only [edgeG,H1.out,h2],rfl⟩⟩
 have H2:=jh h2
 have HC2:=jh (hc.trans hc2)
 clear h2 hg hc hc2
 go_wp2_with fail
 refine (any_any _ hg2).mono ?_
 rintro e w3 ⟨hc3,⟨h3,rfl⟩|⟨t,r3,h3,rfl,ht,hg3⟩⟩
 ·exact⟨rfl,((Chg.refl _ w).alloc _).trans (HC2.out.trans hc3),.inl ⟨by simp only [edgeG,H1.out,H2.out,h3],rfl⟩⟩
 have HF:Hid (edgeG Z=some (((k:Int),(x:Int),(t:Int)),r3)):=jh (by simp only [edgeG,H1.out,H2.out,h3])
 have HC3:=jh (HC2.out.trans hc3)
 obtain⟨c0,c1,c2,cz⟩:=HCL.out _ w3 HC3.out (by have:=HPG.out;show ¬ w.heap.size=pg;omega)
 have hz0:=cz 0
 have hz1:=cz 1
 have hz2:=cz 2
 obtain⟨s0,s1,s2,sc⟩:=store3 (.int .u8 k) (.int .i64 x) (.int .i64 t) c0 c1 c2
 have HG3:=jh (hg3.chg sc (by have:=HPG.out;show ¬ pg=w.heap.size;omega) (by have:=HPG.out;show ¬ gb=w.heap.size;omega))
 have HC4:Hid (Chg (·=pg) w _):=jh ((((Chg.refl _ w).alloc _).trans HC3.out).trans2 sc (fun j hj e=>absurd e (Nat.ne_of_lt hj)))
 clear hc3 hg2 hg3 h3 cz sc
 go_wp2
 exact bodyPost_ret (v:=.agg #[.int .u8 k,.int .i64 x,.int .i64 t]) (by simp [results,Tryz.results172,go_sem,s0,s1,s2]) rfl ⟨HC4.out,.inr ⟨_,_,_,HF.out,rfl,edgeOk hk hx ht,rfl,HG3.out⟩⟩
theorem edges_any {pg gb:Nat} (w:World) (Z:List Int) (h:GetSt pg gb w Z):Calls Tryz.prog 171 #[.pointer (some ⟨pg,0,none⟩),.func (.func 172) #[.pointer (some ⟨pg,0,none⟩)] #[]] w (ListPost pg gb edgeG edgeE eqR w Z):=by
 have eg:=enters_of Tryz.func172 (by kernel_rfl) rfl
 have hO:=reads0' (pg:=pg) (gb:=gb) (f:=172) (fa:=#[.pointer (some ⟨pg,0,none⟩)]) (E:=edgeE) (val:=edgeVal) (δ:=EdgeD) eqR.good (fun w Z h=>edge_read w Z h)
 exact (gotEdge eqR.good (side0 pg gb) _ _ _ edgeG eg hO w Z h).mono (fun _ _ hp=>hp.list eqR.good)
theorem state_read {pg gb : Nat} (w : World) (Z : List Int) (h : GetSt pg gb w Z) : Calls Tryz.prog 146 #[.pointer (some ⟨pg, 0, none⟩)] w (ReadPost pg gb stateG stE stVal stR w Z) := by
  have HG := jh h
  clear h
  have hmf : ∀ (fn : Fn) (first cap : Array Value) (w : World), (Instr.makeFunc fn first cap).run Tryz.prog w = .ok (.func fn first cap) w := fun _ _ _ _ => rfl
  go_enter Tryz.func146, Tryz.ntmps146
  go_wp2_with fail
  refine (any_any _ (HG.out.fresh ((Chg.refl _ _).alloc _))).mono ?_
  rintro e w1 ⟨hc, ⟨h1, rfl⟩|⟨k, r1, h1, rfl, hk, hg⟩⟩
  · exact⟨rfl, ((Chg.refl _ w).alloc _).trans hc, .inl ⟨by simp only [stateG, h1], rfl⟩⟩
  have HC1 := jh (((Chg.refl _ w).alloc _).trans hc)
  have HCL : Hid (∀ S w', Chg S (w.alloc (.cells #[.int .i64 0, .slice none 0 0, .slice none 0 0] 74)) w' → ¬ S w.heap.size → w'.cell? ⟨w.heap.size, 0, none⟩ = some (.int .i64 0) ∧ w'.cell? ⟨w.heap.size, 1, none⟩ = some (.slice none 0 0) ∧ w'.cell? ⟨w.heap.size, 2, none⟩ = some (.slice none 0 0) ∧ ∀ j, w'.frozen? ⟨w.heap.size, j, none⟩ = false) :=
    jh fun S w' hc hs => ⟨hc.cellS (by simp) hs, hc.cellS (by simp) hs, hc.cellS (by simp) hs, fun j => (hc.frozen (p := ⟨w.heap.size, j, none⟩) (by simp) hs).trans (World.frozen?_alloc_new _ _ _ _)⟩
  have HPG : Hid (pg<w.heap.size ∧ gb<w.heap.size) := jh ⟨HG.out.lt, HG.out.lb⟩
  have HW1 : Hid (w.heap.size + 1 ≤ w1.heap.size) := jh (by have := hc.size; simp at this; omega)
  have H1 := jh h1
  clear h1
  go_wp2_with fail
  refine (edges_any _ _ hg).mono ?_
  rintro e w2 ⟨hc2, ⟨h2, rfl⟩|⟨L, r2, a, h2, rfl, hL, hg2, hll⟩⟩
  · exact⟨rfl, HC1.out.trans hc2, .inl ⟨by simp only [stateG, H1.out, h2], rfl⟩⟩
  have H2 := jh h2
  have HC2 := jh (hc.trans hc2)
  have HL : Hid (edgeE.InS w2 (fun k => w1.heap.size ≤ k) (a, L.length, L.length) L) := jh hL.to
  clear h2 hg hc hL
  go_wp2_with fail
  refine (anys_any _ _ hg2).mono ?_
  rintro e w3 ⟨hc3, ⟨h3, rfl⟩|⟨M, r3, b, h3, rfl, hM, hg3, hml⟩⟩
  · exact⟨rfl, ((Chg.refl _ w).alloc _).trans (HC2.out.trans hc3), .inl ⟨by simp only [stateG, H1.out, H2.out, h3], rfl⟩⟩
  have HF : Hid (stateG Z = some (((k : Int), L, M), r3)) := jh (by simp only [stateG, H1.out, H2.out, h3])
  have HC3 := jh (HC2.out.trans hc3)
  obtain⟨c0, c1, c2, cz⟩ := HCL.out _ w3 HC3.out (by have := HPG.out; show ¬ w.heap.size = pg; omega)
  have hz0 := cz 0
  have hz1 := cz 1
  have hz2 := cz 2
  obtain⟨s0, s1, s2, sc⟩ := store3 (.int .i64 k) (.slice a L.length L.length) (.slice b M.length M.length) c0 c1 c2
  have HG3 := jh (hg3.chg sc (by have := HPG.out; show ¬ pg = w.heap.size; omega) (by have := HPG.out; show ¬ gb = w.heap.size; omega))
  have HC4 : Hid (Chg (· = pg) w _) := jh ((((Chg.refl _ w).alloc _).trans HC3.out).trans2 sc (fun j hj e => absurd e (Nat.ne_of_lt hj)))
  have HW2 : Hid (w1.heap.size ≤ w2.heap.size) := jh hc2.size
  have HR : Hid (stR ((((w3.setCell ⟨w.heap.size, 0, none⟩ (.int .i64 k)).setCell ⟨w.heap.size, 1, none⟩ (.slice a L.length L.length)).setCell ⟨w.heap.size, 2, none⟩ (.slice b M.length M.length))) (fun k => w.heap.size ≤ k) ((k : Int), (a, L.length, L.length), (b, M.length, M.length)) ((k : Int), L, M)) := jh
    ⟨rfl, ⟨by show (-9223372036854775808 : Int) ≤ (k : Int); omega, by show (k : Int) ≤ 9223372036854775807; omega⟩,
     (((HL.out.chg hc3 (fun g hg e => by have := HPG.out; have := HW1.out; omega)).chg sc (fun g hg e => by have := HW1.out; omega)).mono (fun g _ hg => by have := HW1.out; show w.heap.size ≤ g; omega)),
     ((hM.to.chg sc (fun g hg e => by have := HW1.out; have := HW2.out; omega)).mono (fun g _ hg => by have := HW1.out; have := HW2.out; show w.heap.size ≤ g; omega))⟩
  have hkb : I.Byte (k : Int) := ⟨by show (-9223372036854775808 : Int) ≤ (k : Int); omega, by show (k : Int) ≤ 9223372036854775807; omega⟩
  have HKB := jh hkb
  clear hc3 hg2 hg3 h3 cz sc hM hkb hc2
  go_wp2
  exact bodyPost_ret (v := .agg #[.int .i64 k, .slice a L.length L.length, .slice b M.length M.length]) (by simp [results, Tryz.results146, go_sem, s0, s1, s2]) rfl ⟨HC4.out, .inr ⟨_, _, ((k : Int), (a, L.length, L.length), (b, M.length, M.length)), HF.out, rfl, HKB.out, HR.out, HG3.out⟩⟩
theorem states_any {pg gb:Nat} (w:World) (Z:List Int) (h:GetSt pg gb w Z):Calls Tryz.prog 145 #[.pointer (some ⟨pg,0,none⟩),.func (.func 146) #[.pointer (some ⟨pg,0,none⟩)] #[]] w (ListPost pg gb stateG stE stR w Z):=by
 have eg:=enters_of Tryz.func146 (by kernel_rfl) rfl
 have hO:=reads0' (pg:=pg) (gb:=gb) (f:=146) (fa:=#[.pointer (some ⟨pg,0,none⟩)]) (E:=stE) (val:=stVal) (δ:=StD) stR.good (fun w Z h=>state_read w Z h)
 exact (gotSt stR.good (side0 pg gb) _ _ _ stateG eg hO w Z h).mono (fun _ _ hp=>hp.list stR.good)
end Go.Proofs.YtgnpmceimpjheaaGreat
namespace Go.Proofs.YtgnpmceimpjheaaGreat
open Go.RowKit
section
variable {P:Program} {ops:Array Oper} {Q:Exit→Act→World→Prop} {md:Region.Mode} {S:World→Prop} {late:Nat→Bool}
theorem late_call_p {i:Nat} {oi:Oper} {fuel:Nat} {listed:Array Bool} {a:Act} {w:World} (hr:Region.ready md ops listed=[i]) (hi:ops[i]?=some oi)
  (hw:Region.wanted oi (yielded ops a.tmps)=true) (f:FuncId) (args:Array Value) (R:Value→World→Prop) (hrun:(execOp a.eval oi).run P w=.ok (.enter f args) w)
  (hcall:Calls P f args w (fun e w''=>(∃ v,e=.returned v∧(late i=false→S w'')∧R v w'')∨∃ ch,e=.panicked ch∧Q (.panic ch) a w''))
  (h:∀ v w'',(late i=false→S w'')→R v w''→∀ K:Act→Prop,(∀ a,wpAnyL P md ops Q S late fuel (listed.setIfInBounds i true) a w''→K a)→K (a.put oi.dst v)) :
  wpAnyL P md ops Q S late (fuel+1) listed a w:=by
 refine⟨fun h0=>(by rw [hr] at h0;cases h0),fun j hj=>?_⟩
 rw [hr] at hj
 obtain rfl:j=i:=by simpa using hj
 unfold Go.wpOp
 simp only [hi,hw,if_true,Oper.wp,hrun,Oper.upon]
 refine .inl (hcall.mono fun e w'' h2=>?_)
 rcases h2 with ⟨v,he,hS,hR⟩|⟨ch,he,hQ⟩
 ·subst he
  exact⟨hS,h v w'' hS hR _ (fun _ h=>h)⟩
 ·subst he
  exact hQ
end
def setAll (b:Nat):Nat→List Value→World→World
 | _,[],W=>W
 | o,v :: vs,W=>setAll b (o+1) vs (W.setCell ⟨b,o,none⟩ v)
theorem setAll_spec (b:Nat):∀ (vs:List Value) (o:Nat) (W:World),(∀ j,j<vs.length→(W.cell? ⟨b,o+j,none⟩).isSome=true) →
  (∀ j v,vs[j]?=some v→(setAll b o vs W).cell? ⟨b,o+j,none⟩=some v)∧(∀ j,j<o→(setAll b o vs W).cell? ⟨b,j,none⟩=W.cell? ⟨b,j,none⟩)∧Chg (·=b) W (setAll b o vs W)∧∀ p,(setAll b o vs W).frozen? p=W.frozen? p
 | [],o,W,_=>⟨fun j v h=>by simp at h,fun _ _=>rfl,Chg.refl _ _,fun _=>rfl⟩
 | u :: vs,o,W,h=>by
  have hne:∀ j,j≠o→(W.setCell ⟨b,o,none⟩ u).cell? ⟨b,j,none⟩=W.cell? ⟨b,j,none⟩:=fun j hj=>World.cell?_setCell_other _ _ _ _ (by intro e;injection e with _ e;exact hj e.symm)
  obtain⟨h1,h2,h3,h4⟩:=setAll_spec b vs (o+1) (W.setCell ⟨b,o,none⟩ u) (fun j hj=>by
   rw [hne _ (by omega),show o+1+j=o+(j+1) by omega]
   exact h (j+1) (by simp;omega))
  refine⟨fun j v hj=>?_,fun j hj=>(h2 j (by omega)).trans (hne j (by omega)),(setCellChg W b o u).trans h3,fun p=>(h4 p).trans (World.frozen?_setCell _ _ _ _)⟩
  cases j with
  | zero =>
   simp at hj
   subst hj
   have h5:=h2 o (by omega)
   rw [show (setAll b o (u :: vs) W)=setAll b (o+1) vs (W.setCell ⟨b,o,none⟩ u) from rfl]
   show (setAll b (o+1) vs (W.setCell ⟨b,o,none⟩ u)).cell? ⟨b,o,none⟩=some u
   rw [h5]
   obtain⟨x,hx⟩:=Option.isSome_iff_exists.1 (h 0 (by simp))
   rw [Nat.add_zero] at hx
   exact World.cell?_setCell_same _ _ _ hx
  | succ j =>
   have:=h1 j v (by simpa using hj)
   rw [show o+1+j=o+(j+1) by omega] at this
   exact this
structure GetSb (pg gb bx:Nat) (w:World) (Z:List Int):Prop where
 g:GetSt pg gb w Z
 c:w.cell? ⟨bx,0,none⟩=some (.pointer (some ⟨pg,0,none⟩))
 ne:bx≠pg
theorem GetSb.lt {pg gb bx:Nat} {w:World} {Z:List Int} (h:GetSb pg gb bx w Z):bx<w.heap.size:=World.block_lt_of_cell? _ _ h.c
theorem GetSb.chg {pg gb bx:Nat} {T:Nat→Prop} {w w':World} {Z:List Int} (h:GetSb pg gb bx w Z) (hc:Chg T w w') (hp:¬ T pg) (hb:¬ T gb) (hx:¬ T bx):GetSb pg gb bx w' Z:=⟨h.g.chg hc hp hb,hc.cellS h.c hx,h.ne⟩
theorem GetSb.fresh {pg gb bx:Nat} {w w':World} {Z:List Int} (h:GetSb pg gb bx w Z) (hc:Chg (fun _=>False) w w'):GetSb pg gb bx w' Z:=h.chg hc (fun h=>h) (fun h=>h) (fun h=>h)
theorem GetSb.go {pg gb bx:Nat} {w w':World} {Z r:List Int} (h:GetSb pg gb bx w Z) (hg:GetSt pg gb w' r) (hc:Chg (·=pg) w w'):GetSb pg gb bx w' r:=⟨hg,hc.cellS h.c h.ne,h.ne⟩
def Tb (pg gb bx:Nat):World→Nat→Prop:=fun _ k=>k=pg∨k=gb∨k=bx
def Sb (δ:Type) (pg gb bx:Nat):World→List δ→List Int→Prop:=fun w _ Z=>GetSb pg gb bx w Z
theorem sideB {δ:Type} (pg gb bx:Nat):Side pg gb (C0 pg) (Tb pg gb bx) (Sb δ pg gb bx) where
 get:=fun h=>h.g
 pgC:=fun _=>rfl
 sub:=fun h=>.inl h
 lt:=fun {w acc Z k} h ht=>by rcases ht with rfl|rfl|rfl;exact h.g.lt;exact h.g.lb;exact GetSb.lt h
 keep:=fun h hc hs=>⟨GetSb.chg h hc (fun e=>hs _ e (.inl rfl)) (fun e=>hs _ e (.inr (.inl rfl))) (fun e=>hs _ e (.inr (.inr rfl))),fun _ h=>h,fun _ h=>h⟩
 move:=fun h hg hc=>⟨GetSb.go h hg hc,fun _ h=>h,fun _ h=>h⟩
theorem readsB {β δ:Type} {pg gb bx:Nat} {f:FuncId} {fa:Array Value} {one:Rdr δ} {E:Elt β} {val:β→Value} {R:Rp β δ} (hR:Good R) (h:∀ w Z,GetSb pg gb bx w Z→Calls Tryz.prog f fa w (ReadPost pg gb one E val R w Z)):Reads f fa one E val R (C0 pg) (Tb pg gb bx) (Sb δ pg gb bx):=by
 intro w acc Z hst _
 refine⟨fun hn=>(h w Z hst).mono ?_,fun x r hs=>(h w Z hst).mono ?_⟩
 ·rintro e w' ⟨hc,⟨_,rfl⟩|⟨x,r,y,h1,_⟩⟩
  ·exact⟨rfl,hc⟩
  ·rw [hn] at h1;cases h1
 ·rintro e w' ⟨hc,⟨h1,_⟩|⟨x',r',y,h1,rfl,h2,h3,h4⟩⟩
  ·rw [hs] at h1;cases h1
  ·rw [hs] at h1
   injection h1 with h1
   injection h1 with e1 e2
   subst e1 e2
   refine⟨y,rfl,h2,hR.mono h3 (fun k _ hk=>⟨hk,fun ht=>?_⟩),GetSb.go hst h4 hc,hc,fun k hk=>.inl hk,fun k hk=>.inl hk⟩
   have h5:=GetSt.lt (GetSb.g hst)
   have h6:=GetSt.lb (GetSb.g hst)
   have h7:=GetSb.lt hst
   rcases ht with rfl|rfl|rfl <;> omega
def ls2R:Rp (Int × Sl × Sl) (Int × List Int):=fun w S x d=>x.1=d.1∧U8 d.1∧intE.InS w S x.2.1 d.2∧x.2.2=(none,0,0)
theorem ls2R.good:Good ls2R:=⟨fun h hc hs=>⟨h.1,h.2.1,h.2.2.1.chg hc hs,h.2.2.2⟩,fun h hs=>⟨h.1,h.2.1,h.2.2.1.mono hs,h.2.2.2⟩⟩
theorem ls_read {pg gb bx:Nat} (w:World) (Z:List Int) (h:GetSb pg gb bx w Z):Calls Tryz.prog 149 #[.pointer (some ⟨bx,0,none⟩)] w (ReadPost pg gb lsG lsE lsVal ls2R w Z):=by
 have HG:=jh h
 clear h
 have hmf:∀ (fn:Fn) (first cap:Array Value) (w:World),(Instr.makeFunc fn first cap).run Tryz.prog w=.ok (.func fn first cap) w:=fun _ _ _ _=>rfl
 go_enter Tryz.func149,Tryz.ntmps149
 go_upto_region 1 with (fail)
 obtain⟨w0,hw0⟩:∃ W,W=w.alloc (.cells #[.int .u8 0,.slice none 0 0,.slice none 0 0] 67):=⟨_,rfl⟩
 rw [← hw0]
 have HCL:Hid (∀ S w',Chg S w0 w'→¬ S w.heap.size→w'.cell? ⟨w.heap.size,0,none⟩=some (.int .u8 0)∧w'.cell? ⟨w.heap.size,1,none⟩=some (.slice none 0 0)∧w'.cell? ⟨w.heap.size,2,none⟩=some (.slice none 0 0)∧∀ j,w'.frozen? ⟨w.heap.size,j,none⟩=false) :=
  jh fun S w' hc hs=>by
   subst hw0
   exact⟨hc.cellS (by simp) hs,hc.cellS (by simp) hs,hc.cellS (by simp) hs,fun j=>(hc.frozen (p:=⟨w.heap.size,j,none⟩) (by simp) hs).trans (World.frozen?_alloc_new _ _ _ _)⟩
 have HC0:Hid (Chg (fun _=>False) w w0):=jh (by rw [hw0];exact (Chg.refl _ w).alloc _)
 have HW0:Hid (w0.heap.size=w.heap.size+1):=jh (by rw [hw0];simp)
 clear hw0
 obtain⟨wd,hwd⟩:∃ W,w0.drew=W:=⟨_,rfl⟩
 have HCD:Hid (Chg (fun _=>False) w0 wd):=jh (by rw [← hwd];exact (Chg.refl _ _).drew)
 have HGD:=jh (HG.out.fresh (HC0.out.trans HCD.out))
 have HWD:Hid (w.heap.size+1≤wd.heap.size):=jh (by have:=HCD.out.size;have:=HW0.out;omega)
 have HPG:Hid (pg<w.heap.size∧gb<w.heap.size):=jh ⟨HG.out.g.lt,HG.out.g.lb⟩
 refine wp_region_late (fun x=>Chg (·=pg) wd x) (fun i=>decide (8≤i)) (by kernel_rfl) ?_
 show wpAnyL _ _ _ _ _ _ 9 (Array.replicate 9 false) _ w0.drew
 rw [hwd]
 clear hwd
 have HSS:Hid (Chg (·=pg) wd wd):=jh (Chg.refl _ _)
 (refine lrd 0 HSS.out fun K hK=>?_;apply ei;intro w' hC;((have q:=hC.cellS HGD.out.c HGD.out.ne);go_simp;try with_reducible rfl);(try go_simp);refine hK _ ?_;clear hK K)
 (refine lrd 3 HSS.out fun K hK=>?_;apply ei;intro w' hC;((have q:=hC.cellS HGD.out.c HGD.out.ne);go_simp;try with_reducible rfl);(try go_simp);refine hK _ ?_;clear hK K)
 (refine lrd 4 HSS.out fun K hK=>?_;apply ei;intro w' hC;((have q:=hC.cellS HGD.out.c HGD.out.ne);go_simp;try with_reducible rfl);(try go_simp);refine hK _ ?_;clear hK K)
 (refine lrd 5 HSS.out fun K hK=>?_;apply ei;intro w' hC;(go_simp;try with_reducible rfl);(try go_simp);refine hK _ ?_;clear hK K)
 refine late_call_p (i:=1) (by kernel_rfl) rfl rfl 106 #[.pointer (some ⟨pg,0,none⟩),.int .i64 3] (fun v w''=>∃ (k:Nat) (r1:List Int),numG 3 Z=some ((k:Int),r1)∧v=.int .i64 k∧k≤3∧GetSt pg gb w'' r1∧Chg (·=pg) wd w'') (by go_simp) ?_ ?_
 ·refine (gnum_any wd HGD.out.g).mono ?_
  rintro e w1 ⟨hc,⟨h1,rfl⟩|⟨k,r1,h1,rfl,hk,hg⟩⟩
  ·exact .inr ⟨_,rfl,rfl,(HC0.out.trans HCD.out).any.trans hc,.inl ⟨by simp only [lsG,h1],rfl⟩⟩
  ·exact .inl ⟨_,rfl,fun _=>hc,k,r1,h1,rfl,hk,hg,hc⟩
 rintro v w1-⟨k,r1,h1,rfl,hk,hg,hc⟩ K hK
 (try go_simp)
 refine hK _ ?_
 clear hK K
 have H1:=jh h1
 have HC1:=jh hc
 have HG1:=jh hg
 clear h1 hc hg HSS
 have HSS:Hid (Chg (·=pg) wd w1):=HC1
 have hwr:IntKind.u8.wrap (k:Int)=(k:Int):=by rw [IntKind.wrap_u8];omega
 (refine lrd 2 HSS.out fun K hK=>?_;apply ei;intro w' hC;(go_simp;try with_reducible rfl);(try go_simp);refine hK _ ?_;clear hK K)
 refine late_call_p (i:=6) (by kernel_rfl) rfl rfl 147 #[.pointer (some ⟨pg,0,none⟩),.func (.func 139) #[.pointer (some ⟨pg,0,none⟩)] #[]] (fun v w''=>∃ (L r2:List Int) (a:Option Addr),lsG Z=some (((k:Int),L),r2)∧v=.slice a L.length L.length∧intE.InS w'' (fun k=>w1.heap.size≤k) (a,L.length,L.length) L∧GetSt pg gb w'' r2∧Chg (·=pg) wd w'') (by go_simp) ?_ ?_
 ·refine (anys_any w1 _ HG1.out).mono ?_
  rintro e w2 ⟨hc,⟨h2,rfl⟩|⟨L,r2,a,h2,rfl,hL,hg,hl⟩⟩
  ·exact .inr ⟨_,rfl,rfl,(HC0.out.trans HCD.out).any.trans (HC1.out.trans hc),.inl ⟨by simp only [lsG,H1.out,h2],rfl⟩⟩
  ·exact .inl ⟨_,rfl,fun _=>HC1.out.trans hc,L,r2,a,by simp only [lsG,H1.out,h2],rfl,hL.to,hg,HC1.out.trans hc⟩
 rintro v w2-⟨L,r2,a,h2,rfl,hL,hg,hc⟩ K hK
 (try go_simp)
 refine hK _ ?_
 clear hK K
 (refine late_turn (i:=7) (by kernel_rfl) rfl rfl fun K hK=>?_;apply Exists.intro;apply Exists.intro;refine⟨?_,?_,?_⟩;(go_simp;try first|with_reducible rfl|exact⟨rfl,rfl⟩);(exact fun _=>hc);(try go_simp);refine hK _ _ ?_;clear hK K)
 obtain⟨c0,c1,c2,cz⟩:=HCL.out (·=pg) w2 (HCD.out.any.trans hc) (by have:=HPG.out;show ¬ w.heap.size=pg;omega)
 have hz0:=cz 0
 have hz1:=cz 1
 have hz2:=cz 2
 obtain⟨s0,s1,s2,sc⟩:=store3 (.int .u8 k) (.slice a L.length L.length) (.slice none 0 0) c0 c1 c2
 have HG3:=jh (hg.chg sc (by have:=HPG.out;show ¬ pg=w.heap.size;omega) (by have:=HPG.out;show ¬ gb=w.heap.size;omega))
 have HC4:Hid (Chg (·=pg) w _):=jh (((HC0.out.trans HCD.out).any.trans hc).trans2 sc (fun j hj e=>absurd e (Nat.ne_of_lt hj)))
 have hkb:U8 (k:Int):=⟨by omega,by omega⟩
 have HR:Hid (ls2R ((((w2.setCell ⟨w.heap.size,0,none⟩ (.int .u8 k)).setCell ⟨w.heap.size,1,none⟩ (.slice a L.length L.length)).setCell ⟨w.heap.size,2,none⟩ (.slice none 0 0))) (fun k=>w.heap.size≤k) ((k:Int),(a,L.length,L.length),(none,0,0)) ((k:Int),L)):=jh
  ⟨rfl,hkb,(hL.chg sc (fun g hg e=>by have:=HC1.out.size;have:=HWD.out;omega)).mono (fun g _ hg=>by have:=HC1.out.size;have:=HWD.out;show w.heap.size≤g;omega),rfl⟩
 have HF:=jh h2
 have HKB:=jh hkb
 clear hg hc hL h2 cz sc hkb
 (refine late_store (i:=8) (by kernel_rfl) rfl rfl fun K hK=>?_;apply Exists.intro;refine⟨?_,(fun h=>absurd h (by decide)),?_⟩;(go_simp;try first|with_reducible rfl|exact⟨rfl,rfl⟩);(try go_simp);refine hK _ _ ?_;clear hK K)
 refine late_done (by kernel_rfl) ?_ _
 go_wp2
 exact bodyPost_ret (v:=.agg #[.int .u8 k,.slice a L.length L.length,.slice none 0 0]) (by simp [results,Tryz.results149,go_sem,s0,s1,s2]) rfl ⟨HC4.out,.inr ⟨_,_,((k:Int),(a,L.length,L.length),(none,0,0)),HF.out,rfl,HKB.out,HR.out,HG3.out⟩⟩
end Go.Proofs.YtgnpmceimpjheaaGreat
namespace Go.Proofs.YtgnpmceimpjheaaGreat
open Go.RowKit
structure TokSt (pg gb bx tb:Nat) (w0:World) (w:World) (acc:List (Str × Bool)) (Z:List Int):Prop where
 g:GetSb pg gb bx w Z
 lt:pg<tb∧gb<tb∧bx<tb
 f:∃ v,Fld boolE tb 2 w v (acc.map (·.2))
 o:∀ j u,j≠2→w0.cell? ⟨tb,j,none⟩=some u→w.cell? ⟨tb,j,none⟩=some u
 z:∀ j,w.frozen? ⟨tb,j,none⟩=false
def Tt (pg gb bx tb:Nat):World→Nat→Prop:=fun w k=>k=pg∨k=gb∨k=bx∨k=tb∨∃ v,w.cell? ⟨tb,2,none⟩=some v∧v.ownBlock=some k
def Ct (pg tb:Nat):World→Nat→Prop:=fun w k=>k=pg∨k=tb∨∃ v,w.cell? ⟨tb,2,none⟩=some v∧v.ownBlock=some k
theorem sideT (pg gb bx tb:Nat) (w0:World):Side pg gb (Ct pg tb) (Tt pg gb bx tb) (TokSt pg gb bx tb w0) where
 get:=fun h=>h.g.g
 pgC:=fun _=>.inl rfl
 sub:=fun h=>by
  rcases h with h|h|h
  ·exact .inl h
  ·exact .inr (.inr (.inr (.inl h)))
  ·exact .inr (.inr (.inr (.inr h)))
 lt:=fun {w acc Z k} h ht=>by
  obtain⟨v,hv⟩:=h.f
  rcases ht with rfl|rfl|rfl|rfl|⟨u,hu,hk⟩
  ·exact h.g.g.lt
  ·exact h.g.g.lb
  ·exact h.g.lt
  ·exact hv.lt
  ·rw [hv.c] at hu
   obtain rfl:=Option.some.inj hu
   exact (hv.own.blk hk).2
 keep:=fun {S w w' acc Z} h hc hs=>by
  obtain⟨v,hv⟩:=h.f
  have hc2:w'.cell? ⟨tb,2,none⟩=some v:=hc.cellS hv.c (fun e=>hs _ e (.inr (.inr (.inr (.inl rfl)))))
  have htb:¬ S tb:=fun e=>hs _ e (.inr (.inr (.inr (.inl rfl))))
  refine⟨⟨h.g.chg hc (fun e=>hs _ e (.inl rfl)) (fun e=>hs _ e (.inr (.inl rfl))) (fun e=>hs _ e (.inr (.inr (.inl rfl)))),h.lt,⟨v,hc2,(hc.frozen (p:=⟨tb,2,none⟩) hv.lt htb).trans hv.z,hv.own.chgB hc (fun g hg e=>hs _ e (.inr (.inr (.inr (.inr ⟨v,hv.c,hg⟩)))))⟩,fun j u hj hu=>hc.cellS (h.o j u hj hu) htb,fun j=>(hc.frozen (p:=⟨tb,j,none⟩) hv.lt htb).trans (h.z j)⟩,fun k hk=>?_,fun k hk=>?_⟩
  ·rcases hk with h1|h1|h1|h1|⟨u,hu,hk⟩
   ·exact .inl h1
   ·exact .inr (.inl h1)
   ·exact .inr (.inr (.inl h1))
   ·exact .inr (.inr (.inr (.inl h1)))
   ·rw [hc2] at hu
    obtain rfl:=Option.some.inj hu
    exact .inr (.inr (.inr (.inr ⟨v,hv.c,hk⟩)))
  ·rcases hk with h1|h1|⟨u,hu,hk⟩
   ·exact .inl h1
   ·exact .inr (.inl h1)
   ·rw [hc2] at hu
    obtain rfl:=Option.some.inj hu
    exact .inr (.inr ⟨v,hv.c,hk⟩)
 move:=fun {w w' acc Z r} h hg hc=>by
  obtain⟨v,hv⟩:=h.f
  have htb:¬ tb=pg:=by have:=h.lt;omega
  have hc2:w'.cell? ⟨tb,2,none⟩=some v:=hc.cellS hv.c htb
  refine⟨⟨h.g.go hg hc,h.lt,⟨v,hc2,(hc.frozen (p:=⟨tb,2,none⟩) hv.lt htb).trans hv.z,hv.own.chg hc (fun g hg _ e=>by have:=h.lt;omega)⟩,fun j u hj hu=>hc.cellS (h.o j u hj hu) htb,fun j=>(hc.frozen (p:=⟨tb,j,none⟩) hv.lt htb).trans (h.z j)⟩,fun k hk=>?_,fun k hk=>?_⟩
  ·rcases hk with h1|h1|h1|h1|⟨u,hu,hk⟩
   ·exact .inl h1
   ·exact .inr (.inl h1)
   ·exact .inr (.inr (.inl h1))
   ·exact .inr (.inr (.inr (.inl h1)))
   ·rw [hc2] at hu
    obtain rfl:=Option.some.inj hu
    exact .inr (.inr (.inr (.inr ⟨v,hv.c,hk⟩)))
  ·rcases hk with h1|h1|⟨u,hu,hk⟩
   ·exact .inl h1
   ·exact .inr (.inl h1)
   ·rw [hc2] at hu
    obtain rfl:=Option.some.inj hu
    exact .inr (.inr ⟨v,hv.c,hk⟩)
def tokR:Rp Str (Str × Bool):=fun _ _ x d=>x=d.1
theorem tokR.good:Good tokR:=⟨fun h _ _=>h,fun h _=>h⟩
theorem TokSt.fin {pg gb bx tb:Nat} {w0 w w3 w4:World} {acc:List (Str × Bool)} {Z r:List Int} {v v':Value} {s:Str} {b:Bool} (h:TokSt pg gb bx tb w0 w acc Z) (hv:Fld boolE tb 2 w v (acc.map (·.2))) (hg:GetSt pg gb w3 r) (hc:Chg (·=pg) w w3)
  (ho:boolE.Own w4 (tb+1) v' (acc.map (·.2)++[b])) (hb:Chg (fun k=>v.ownBlock=some k) w3 w4) (hb2:v'.ownBlock=v.ownBlock∨∃ k,v'.ownBlock=some k∧w3.heap.size≤k) :
  (w4.cell? ⟨tb,2,none⟩=some v∧w4.frozen? ⟨tb,2,none⟩=false)∧TokSt pg gb bx tb w0 (w4.setCell ⟨tb,2,none⟩ v') (acc++[(s,b)]) r∧Chg (Ct pg tb w) w (w4.setCell ⟨tb,2,none⟩ v') ∧
   (∀ k,Tt pg gb bx tb (w4.setCell ⟨tb,2,none⟩ v') k→Tt pg gb bx tb w k∨w.heap.size≤k)∧∀ k,Ct pg tb (w4.setCell ⟨tb,2,none⟩ v') k→Ct pg tb w k∨w.heap.size≤k:=by
 have hlt:=h.lt
 have hob:∀ k,v.ownBlock=some k→tb+1≤k:=fun k hk=>(hv.own.blk hk).1
 have c3:=hc.cellS hv.c (show ¬ tb=pg by omega)
 have c4:=hb.cellS c3 (fun e=>by have:=hob _ e;simp only at this;omega)
 have l3:tb<w3.heap.size:=World.block_lt_of_cell? _ _ c3
 have z4:∀ j,w4.frozen? ⟨tb,j,none⟩=false:=fun j =>
  (hb.frozen (p:=⟨tb,j,none⟩) l3 (fun e=>by have:=hob _ e;simp only at this;omega)).trans ((hc.frozen (p:=⟨tb,j,none⟩) hv.lt (show ¬ tb=pg by omega)).trans (h.z j))
 have hs:=setCellChg w4 tb 2 v'
 have c5:(w4.setCell ⟨tb,2,none⟩ v').cell? ⟨tb,2,none⟩=some v':=World.cell?_setCell_same _ _ _ c4
 have h35:Chg (fun k=>k=tb∨v.ownBlock=some k) w3 (w4.setCell ⟨tb,2,none⟩ v'):=(hb.mono (fun k _ e=>.inr e)).trans (hs.mono (fun k _ e=>.inl e))
 have hnew:∀ k,v'.ownBlock=some k→v.ownBlock=some k∨w.heap.size≤k:=fun k hk=>by
  rcases hb2 with e|⟨j,e,hj⟩
  ·exact .inl (by rw [← e];exact hk)
  ·rw [e] at hk
   injection hk with hk
   exact .inr (by have:=hc.size;omega)
 refine⟨⟨c4,z4 2⟩,⟨⟨hg.chg h35 (fun e=>by rcases e with e|e;omega;have:=hob _ e;omega) (fun e=>by rcases e with e|e;omega;have:=hob _ e;omega),h35.cellS (hc.cellS h.g.c h.g.ne) (fun e=>by rcases e with e|e;(simp only at e;omega);have:=hob _ e;simp only at this;omega),h.g.ne⟩,h.lt,⟨v',c5,(World.frozen?_setCell _ _ _ _).trans (z4 2),?_⟩,fun j u hj hu=>?_,fun j=>(World.frozen?_setCell _ _ _ _).trans (z4 j)⟩,(hc.mono (fun k _ e=>.inl e)).trans2 (h35.mono (T:=Ct pg tb w) (fun k _ e=>?_)) (fun k _ e=>e),fun k hk=>?_,fun k hk=>?_⟩
 ·rw [List.map_append]
  exact ho.chg hs (fun g hg _ e=>by omega)
 ·rw [World.cell?_setCell_other _ _ _ _ (by intro e;injection e with _ e;exact hj e.symm)]
  exact hb.cellS (hc.cellS (h.o j u hj hu) (show ¬ tb=pg by omega)) (fun e=>by have:=hob _ e;simp only at this;omega)
 ·rcases e with e|e
  ·exact .inr (.inl e)
  ·exact .inr (.inr ⟨v,hv.c,e⟩)
 ·rcases hk with h1|h1|h1|h1|⟨u,hu,hk⟩
  ·exact .inl (.inl h1)
  ·exact .inl (.inr (.inl h1))
  ·exact .inl (.inr (.inr (.inl h1)))
  ·exact .inl (.inr (.inr (.inr (.inl h1))))
  ·rw [c5] at hu
   obtain rfl:=Option.some.inj hu
   rcases hnew k hk with h1|h1
   ·exact .inl (.inr (.inr (.inr (.inr ⟨v,hv.c,h1⟩))))
   ·exact .inr h1
 ·rcases hk with h1|h1|⟨u,hu,hk⟩
  ·exact .inl (.inl h1)
  ·exact .inl (.inr (.inl h1))
  ·rw [c5] at hu
   obtain rfl:=Option.some.inj hu
   rcases hnew k hk with h1|h1
   ·exact .inl (.inr (.inr ⟨v,hv.c,h1⟩))
   ·exact .inr h1
def TokPost (pg gb bx tb:Nat) (w0 w:World) (acc:List (Str × Bool)) (Z:List Int) (e:Ending) (w':World):Prop :=
 Chg (Ct pg tb w) w w'∧((tokG Z=none∧e=strangeP)∨∃ s b r,tokG Z=some ((s,b),r)∧e=.returned (.string s)∧TokSt pg gb bx tb w0 w' (acc++[(s,b)]) r∧(∀ k,Tt pg gb bx tb w' k→Tt pg gb bx tb w k∨w.heap.size≤k)∧∀ k,Ct pg tb w' k→Ct pg tb w k∨w.heap.size≤k)
theorem tok_any {pg gb bx tb:Nat} {w0:World} (w:World) (acc:List (Str × Bool)) (Z:List Int) (h:TokSt pg gb bx tb w0 w acc Z) (hl:acc.length≤16777215):Calls Tryz.prog 105 #[.pointer (some ⟨bx,0,none⟩),.pointer (some ⟨tb,0,none⟩)] w (TokPost pg gb bx tb w0 w acc Z):=by
 have HG:=jh h
 have q0:=h.g.c
 have HAL:Hid ((acc.map (·.2)).length≤16777215):=jh (by simpa using hl)
 clear h hl
 go_enter Tryz.func105,Tryz.ntmps105
 go_wp2_with fail
 refine (text_read w Z HG.out.g.g).mono ?_
 rintro e w1 ⟨hc,⟨h1,rfl⟩|⟨_,r1,s,h1,rfl,-,rfl,hg⟩⟩
 ·exact⟨rfl,hc.mono (fun k _ e=>.inl e),.inl ⟨by simp only [tokG,h1],rfl⟩⟩
 simp only [strVal]
 have H1:=jh h1
 have HC1:=jh hc
 have HG1:=jh hg
 clear h1 hc hg q0
 go_upto_region 2 with (fail)
 obtain⟨v,hv⟩:=HG.out.f
 obtain⟨va,vn,vc,rfl⟩:=hv.own.shape3
 have HV:=jh hv
 clear hv
 have HLT:=jh HG.out.lt
 obtain⟨wd,hwd⟩:∃ W,w1.drew=W:=⟨_,rfl⟩
 have HCD:Hid (Chg (fun _=>False) w1 wd):=jh (by rw [← hwd];exact (Chg.refl _ _).drew)
 have HGD:=jh (HG1.out.fresh HCD.out)
 have HC1D:Hid (Chg (·=pg) w wd):=jh (HC1.out.trans HCD.out.any)
 refine wp_region_late (fun x=>Chg (·=pg) w x) (fun i=>decide (6≤i)) (by kernel_rfl) ?_
 show wpAnyL _ _ _ _ _ _ 9 (Array.replicate 9 false) _ w1.drew
 rw [hwd]
 clear hwd
 have HSS:Hid (Chg (·=pg) w wd):=HC1D
 (refine lrd 0 HSS.out fun K hK=>?_;apply ei;intro w' hC;(go_simp;try with_reducible rfl);(try go_simp);refine hK _ ?_;clear hK K)
 (refine lrd 1 HSS.out fun K hK=>?_;apply ei;intro w' hC;((have q:=hC.cellS HV.out.c (by have:=HLT.out;show ¬ tb=pg;omega));go_simp;try with_reducible rfl);(try go_simp);refine hK _ ?_;clear hK K)
 (refine lrd 2 HSS.out fun K hK=>?_;apply ei;intro w' hC;((have q:=hC.cellS HG.out.g.c HG.out.g.ne);go_simp;try with_reducible rfl);(try go_simp);refine hK _ ?_;clear hK K)
 refine late_call_p (i:=3) (by kernel_rfl) rfl rfl 106 #[.pointer (some ⟨pg,0,none⟩),.int .i64 1] (fun v w''=>∃ (k:Nat) (r2:List Int),numG 1 r1=some ((k:Int),r2)∧v=.int .i64 k∧k≤1∧GetSt pg gb w'' r2∧Chg (·=pg) w w'') (by go_simp) ?_ ?_
 ·refine (gnum_any wd HGD.out).mono ?_
  rintro e w2 ⟨hc,⟨h2,rfl⟩|⟨k,r2,h2,rfl,hk,hg⟩⟩
  ·exact .inr ⟨_,rfl,rfl,(HC1D.out.trans hc).mono (fun k _ e=>.inl e),.inl ⟨by simp only [tokG,H1.out,h2],rfl⟩⟩
  ·exact .inl ⟨_,rfl,fun _=>HC1D.out.trans hc,k,r2,h2,rfl,hk,hg,HC1D.out.trans hc⟩
 rintro v w2-⟨k,r2,h2,rfl,hk,hg,hc⟩ K hK
 (try go_simp)
 refine hK _ ?_
 clear hK K
 have HG2:=jh hg
 have HC2:=jh hc
 have H2:=jh h2
 clear h2 hg hc HSS
 have HSS:Hid (Chg (·=pg) w w2):=HC2
 obtain⟨b,hb⟩:∃ b,decide ((k:Int)=1)=b:=⟨_,rfl⟩
 have HF:Hid (tokG Z=some ((s,b),r2)):=jh (by simp only [tokG,H1.out,H2.out,hb])
 have hb2:((k:Int) == 1)=b:=hb
 have hb3:(k == 1)=b:=by rw [← hb];rcases (by omega:k=0∨k=1) with rfl|rfl <;> rfl
 have hb4:decide (k=1)=b:=hb3
 clear hb
 (refine lrd 4 HSS.out fun K hK=>?_;apply ei;intro w' hC;(go_simp;try with_reducible rfl);(try go_simp);refine hK _ ?_;clear hK K)
 clear hb2 hb3 hb4
 (refine late_turn (i:=5) (by kernel_rfl) rfl rfl fun K hK=>?_;apply Exists.intro;apply Exists.intro;refine⟨?_,?_,?_⟩;(go_simp;try first|with_reducible rfl|exact⟨rfl,rfl⟩);(exact fun _=>HC2.out.alloc _);(try go_simp);refine hK _ _ ?_;clear hK K)
 obtain⟨w3,hw3⟩:∃ W,W=w2.alloc (.cells #[.bool b] 4):=⟨_,rfl⟩
 have HC3:Hid (Chg (fun _=>False) w2 w3):=jh (by rw [hw3];exact (Chg.refl _ _).alloc _)
 have HSRC:Hid (Src Tryz.prog boolE.sz boolE.sl (.slice (some ⟨w2.heap.size,0,none⟩) 1 1) 1 (boolE.encs [b]) w3):=jh (by rw [hw3];exact boolE.srcLit (Y:=[b]) 1 (fun _ _=>trivial))
 rw [← hw3]
 clear hw3
 have HO3:Hid (boolE.Own w3 (tb+1) (.slice va vn vc) (acc.map (·.2))):=jh ((HV.out.own.chg HC2.out (fun g hg _ e=>by have:=HLT.out;omega)).chg HC3.out (fun _ _ _ h=>h))
 have HB3:Hid (tb+1≤w3.heap.size):=jh (by have:=HV.out.lt;have:=HC2.out.size;have:=HC3.out.size;omega)
 refine late_append (i:=6) (by kernel_rfl) rfl rfl (.tmp 7) (.tmp 11) 23 23 rfl (.slice va vn vc) (.slice (some ⟨w2.heap.size,0,none⟩) 1 1) rfl rfl (fun v' w4=>boolE.Own w4 (tb+1) v' (acc.map (·.2)++[b])∧Chg (fun k=>(Value.slice va vn vc).ownBlock=some k) w3 w4∧(v'.ownBlock=(Value.slice va vn vc).ownBlock∨v'.ownBlock=some w3.heap.size)∧∃ a n c,v'=.slice a n c) ?_ ?_
 ·obtain⟨v',w4,hrun,h1,h2,⟨h3,h4⟩,-⟩:=HO3.out.append HB3.out 23 (.slice (some ⟨w2.heap.size,0,none⟩) 1 1) [b] HSRC.out (fun _ _=>trivial) (by have:=HAL.out;simp at this ⊢;omega) 23
  exact⟨v',w4,hrun,(fun h=>absurd h (by decide)),h1,h3,h4,h1.shape3⟩
 rintro v' w4-⟨o1,o2,o3,na,nn,nc,rfl⟩ K hK
 obtain⟨⟨k1,k2⟩,hst,hchg,hT,hCC⟩:=TokSt.fin (s:=s) HG.out HV.out (HG2.out.fresh HC3.out) (HC2.out.trans HC3.out.any) o1 o2 (by rcases o3 with o3|o3;exact .inl o3;exact .inr ⟨_,o3,Nat.le_refl _⟩)
 have HFIN:Hid (TokPost pg gb bx tb w0 w acc Z (.returned (.string s)) (w4.setCell ⟨tb,2,none⟩ (.slice na nn nc))):=jh ⟨hchg,.inr ⟨s,b,r2,HF.out,rfl,hst,hT,hCC⟩⟩
 clear hst hchg hT hCC o1 o2 o3
 (try go_simp)
 refine hK _ ?_
 clear hK K
 (refine late_turn (i:=7) (by kernel_rfl) rfl rfl fun K hK=>?_;apply Exists.intro;apply Exists.intro;refine⟨?_,?_,?_⟩;(go_simp;try first|with_reducible rfl|exact⟨rfl,rfl⟩);(exact fun h=>absurd h (by decide));(try go_simp);refine hK _ _ ?_;clear hK K)
 (refine late_store (i:=8) (by kernel_rfl) rfl rfl fun K hK=>?_;apply Exists.intro;refine⟨?_,(fun h=>absurd h (by decide)),?_⟩;(go_simp;try first|with_reducible rfl|exact⟨rfl,rfl⟩);(try go_simp);refine hK _ _ ?_;clear hK K)
 refine late_done (by kernel_rfl) ?_ _
 clear k1 k2
 go_wp2
 go_ret
 exact HFIN.out
theorem toks_any {pg gb bx tb:Nat} (w:World) (Z:List Int) (h:TokSt pg gb bx tb w w [] Z):Calls Tryz.prog 103 #[.pointer (some ⟨pg,0,none⟩),.func (.func 105) #[] #[.pointer (some ⟨bx,0,none⟩),.pointer (some ⟨tb,0,none⟩)]] w (GotPost tokG strE tokR (Ct pg tb) (Tt pg gb bx tb) (TokSt pg gb bx tb w) w Z):=by
 have eg:=enters_of Tryz.func105 (by kernel_rfl) rfl
 refine gotStr tokR.good (sideT pg gb bx tb w) _ #[] #[.pointer (some ⟨bx,0,none⟩),.pointer (some ⟨tb,0,none⟩)] tokG eg ?_ w Z h
 rw [Array.empty_append]
 intro w1 acc Z1 hst hl
 refine⟨fun hn=>(tok_any w1 acc Z1 hst hl).mono ?_,fun x r hs=>(tok_any w1 acc Z1 hst hl).mono ?_⟩
 ·rintro e w' ⟨hc,⟨_,rfl⟩|⟨s,b,r,h1,_⟩⟩
  ·exact⟨rfl,hc⟩
  ·rw [hn] at h1;cases h1
 ·rintro e w' ⟨hc,⟨h1,_⟩|⟨s,b,r',h1,rfl,h2,h3,h4⟩⟩
  ·rw [hs] at h1;cases h1
  ·rw [hs] at h1
   injection h1 with h1
   injection h1 with e1 e2
   subst e1 e2
   exact⟨s,rfl,trivial,rfl,h2,hc,h3,h4⟩
end Go.Proofs.YtgnpmceimpjheaaGreat
namespace Go.Proofs.YtgnpmceimpjheaaGreat
open Go.RowKit
theorem ListR.get3 {β δ:Type} {E:Elt β} {R:Rp β δ} {w:World} {S:Nat→Prop} {a:Option Addr} {n c:Nat} {L:List δ} (h:ListR E R w S (a,n,c) L) (hz:E.sz=3) {k:Nat} (hk:k<L.length) {f:β→List Value} (hf:E.enc=f) :
  ∃ (x:β) (d:δ) (g o:Nat),L[k]?=some d∧R w S x d∧a=some ⟨g,o,none⟩∧S g∧g<w.heap.size∧E.ok x∧∀ u0 u1 u2,f x=[u0,u1,u2]→w.cell? ⟨g,o+k * 3,none⟩=some u0∧w.cell? ⟨g,o+k * 3+1,none⟩=some u1∧w.cell? ⟨g,o+k * 3+2,none⟩=some u2:=by
 obtain⟨x,d,g,o,h1,h2,h3,h4,h5,h6,h7⟩:=h.get hk
 refine⟨x,d,g,o,h1,h2,h3,h4,h5,h6,fun u0 u1 u2 he=>?_⟩
 rw [← hf] at he
 have c0:=h7 0 u0 (by rw [he];rfl)
 have c1:=h7 1 u1 (by rw [he];rfl)
 have c2:=h7 2 u2 (by rw [he];rfl)
 rw [hz] at c0 c1 c2
 exact⟨by simpa using c0,by rw [Nat.add_assoc];exact c1,by rw [Nat.add_assoc];exact c2⟩
theorem Elt.Own.clip {α:Type} {E:Elt α} {w:World} {B:Nat} {v:Value} {X:List α} (h:E.Own w B v X):∃ a c,v=.slice a X.length c∧X.length≤c∧E.Own w B (.slice a X.length X.length) X:=by
 rcases h with ⟨rfl,rfl⟩|⟨g,C,rfl,h2,h3,h4,h5⟩
 ·exact⟨none,0,rfl,Nat.le_refl _,.nil _ _⟩
 ·refine⟨_,_,rfl,h4.length_le,.inr ⟨g,X,rfl,h2,⟨fun j u hj=>?_,h3.z,h3.lt,fun x hx=>h3.ok x (h4.subset hx)⟩,List.prefix_refl _,Nat.le_trans h4.length_le h5⟩⟩
  have:=(h3.at' h4).c j u hj
  rwa [Nat.zero_add] at this
theorem decsFrom_append:∀ (X:List StD) (s:StD) (k:Nat),decsFrom k (X++[s])=decsFrom k X++(if 0<s.2.2.length then [((k+X.length:Nat):Int)] else [])
 | [],s,k=>by
  simp only [List.nil_append,decsFrom,List.length_nil,Nat.add_zero]
 | x :: X,s,k=>by
  have h:=decsFrom_append X s (k+1)
  rw [List.cons_append]
  simp only [decsFrom,List.length_cons]
  rw [h,show k+1+X.length=k+(X.length+1) by omega]
  split <;> simp
theorem decsFrom_length:∀ (X:List StD) (k:Nat),(decsFrom k X).length≤X.length
 | [],k=>Nat.le_refl _
 | x :: X,k=>by
  have h:=decsFrom_length X (k+1)
  simp only [decsFrom]
  split <;> simp <;> omega
theorem decs_take {L:List StD} {k:Nat} {s:StD} (h:L[k]?=some s):decsFrom 0 (L.take (k+1))=decsFrom 0 (L.take k)++(if 0<s.2.2.length then [(k:Int)] else []):=by
 have hk:=(List.getElem?_eq_some_iff.1 h).1
 rw [List.take_add_one,h,Option.toList_some,decsFrom_append,List.length_take,Nat.min_eq_left (by omega),Nat.zero_add]
structure NLp (b:Nat) (w4 wr:World) (s0 s1 s2 s3 v:Value) (X:List Int):Prop where
 c0:wr.cell? ⟨b,0,none⟩=some s0
 c1:wr.cell? ⟨b,1,none⟩=some s1
 c2:wr.cell? ⟨b,2,none⟩=some s2
 c3:wr.cell? ⟨b,3,none⟩=some s3
 f:Fld intE b 4 wr v X
 chg:Chg (fun k=>b≤k) w4 wr
theorem NLp.fresh {b:Nat} {w4 wr w':World} {s0 s1 s2 s3 v:Value} {X:List Int} (h:NLp b w4 wr s0 s1 s2 s3 v X) (hc:Chg (fun _=>False) wr w'):NLp b w4 w' s0 s1 s2 s3 v X :=
 ⟨hc.cellS h.c0 (fun h=>h),hc.cellS h.c1 (fun h=>h),hc.cellS h.c2 (fun h=>h),hc.cellS h.c3 (fun h=>h),h.f.chg hc (fun _ _ _ h=>h),h.chg.trans hc.any⟩
theorem NLp.step {b:Nat} {w4 wr w1:World} {s0 s1 s2 s3 v v':Value} {X Y:List Int} (h:NLp b w4 wr s0 s1 s2 s3 v X) (ho:intE.Own w1 (b+1) v' Y) (hc:Chg (fun k=>b+1≤k) wr w1) :
  (w1.cell? ⟨b,4,none⟩=some v∧w1.frozen? ⟨b,4,none⟩=false)∧NLp b w4 (w1.setCell ⟨b,4,none⟩ v') s0 s1 s2 s3 v' Y:=by
 obtain⟨h1,h2,h3,h4⟩:=h.f.step ho hc
 exact⟨h1,⟨h4 0 _ (by decide) h.c0,h4 1 _ (by decide) h.c1,h4 2 _ (by decide) h.c2,h4 3 _ (by decide) h.c3,h2,h.chg.trans h3⟩⟩
def NetPost (pg gb:Nat) (w:World) (Z:List Int) (e:Ending) (w':World):Prop :=
 Chg (·=pg) w w'∧((netG Z=none∧e=strangeP)∨∃ n r m,netG Z=some (n,r)∧e=.returned (netV m)∧NetIn w' (fun k=>w.heap.size≤k) m n∧GetSt pg gb w' r∧n.d.length≤16777215)
theorem net_any {pg gb:Nat} (w:World) (Z:List Int) (h:GetSt pg gb w Z):Calls Tryz.prog 108 #[.pointer (some ⟨pg,0,none⟩)] w (NetPost pg gb w Z):=by
 have HG:=jh h
 clear h
 have hmf:∀ (fn:Fn) (first cap:Array Value) (w:World),(Instr.makeFunc fn first cap).run Tryz.prog w=.ok (.func fn first cap) w:=fun _ _ _ _=>rfl
 go_enter Tryz.func108,Tryz.ntmps108
 go_upto_region 1 with (fail)
 obtain⟨w0,hw0⟩:∃ W,W=w.alloc (.cells #[.slice none 0 0,.slice none 0 0,.slice none 0 0,.slice none 0 0,.slice none 0 0] 31):=⟨_,rfl⟩
 rw [← hw0]
 have HCL:Hid (∀ S w',Chg S w0 w'→¬ S w.heap.size→∀ j,j<5→w'.cell? ⟨w.heap.size,j,none⟩=some (.slice none 0 0)∧w'.frozen? ⟨w.heap.size,j,none⟩=false) :=
  jh fun S w' hc hs j hj=>by
   subst hw0
   refine⟨hc.cellS (p:=⟨w.heap.size,j,none⟩) ?_ hs,(hc.frozen (p:=⟨w.heap.size,j,none⟩) (by simp) hs).trans (World.frozen?_alloc_new _ _ _ _)⟩
   rw [World.cell?_alloc_new]
   rcases (by omega:j=0∨j=1∨j=2∨j=3∨j=4) with rfl|rfl|rfl|rfl|rfl <;> rfl
 have HC0:Hid (Chg (fun _=>False) w w0):=jh (by rw [hw0];exact (Chg.refl _ w).alloc _)
 have HW0:Hid (w0.heap.size=w.heap.size+1):=jh (by rw [hw0];simp)
 have HPG:Hid (pg<w.heap.size∧gb<w.heap.size):=jh ⟨HG.out.lt,HG.out.lb⟩
 clear hw0
 go_wp2_with fail
 refine (states_any w0 Z (HG.out.fresh HC0.out)).mono ?_
 rintro e w1 ⟨hc1,⟨h1,rfl⟩|⟨L,r1,a1,h1,rfl,hL,hg1,hl1⟩⟩
 ·exact⟨rfl,HC0.out.any.trans hc1,.inl ⟨by simp only [netG,h1],rfl⟩⟩
 have H1:=jh h1
 have HC1:=jh hc1
 have HL:=jh hL
 have HLL:=jh hl1
 clear h1 hc1 hL hl1
 go_wp2_with fail
 refine (anys_any w1 _ hg1).mono ?_
 rintro e w2 ⟨hc2,⟨h2,rfl⟩|⟨M1,r2,a2,h2,rfl,hM1,hg2,-⟩⟩
 ·exact⟨rfl,HC0.out.any.trans (HC1.out.trans hc2),.inl ⟨by simp only [netG,H1.out,h2],rfl⟩⟩
 have H2:=jh h2
 have HC2:=jh hc2
 have HM1:=jh hM1.to
 clear h2 hc2 hM1 hg1
 go_wp2_with fail
 refine (anys_any w2 _ hg2).mono ?_
 rintro e w3 ⟨hc3,⟨h3,rfl⟩|⟨M2,r3,a3,h3,rfl,hM2,hg3,-⟩⟩
 ·exact⟨rfl,HC0.out.any.trans (HC1.out.trans (HC2.out.trans hc3)),.inl ⟨by simp only [netG,H1.out,H2.out,h3],rfl⟩⟩
 have H3:=jh h3
 have HC3:=jh hc3
 have HM2:=jh hM2.to
 clear h3 hc3 hM2 hg2
 go_wp2_with fail
 refine (anys_any w3 _ hg3).mono ?_
 rintro e w4 ⟨hc4,⟨h4,rfl⟩|⟨M3,r4,a4,h4,rfl,hM3,hg4,-⟩⟩
 ·exact⟨rfl,HC0.out.any.trans (HC1.out.trans (HC2.out.trans (HC3.out.trans hc4))),.inl ⟨by simp only [netG,H1.out,H2.out,H3.out,h4],rfl⟩⟩
 have HF:Hid (netG Z=some (⟨L,M1,M2,M3,decsOf L⟩,r4)):=jh (by simp only [netG,H1.out,H2.out,H3.out,h4])
 have HC04:Hid (Chg (·=pg) w0 w4):=jh (HC1.out.trans (HC2.out.trans (HC3.out.trans hc4)))
 have HSZ:Hid (w.heap.size+1≤w1.heap.size∧w1.heap.size≤w2.heap.size∧w2.heap.size≤w3.heap.size∧w3.heap.size≤w4.heap.size):=jh ⟨by have:=HC1.out.size;have:=HW0.out;omega,HC2.out.size,HC3.out.size,hc4.size⟩
 have HNI:Hid (NetIn w4 (fun k=>w.heap.size+1≤k∧k<w4.heap.size) ⟨(a1,L.length,L.length),(a2,M1.length,M1.length),(a3,M2.length,M2.length),(a4,M3.length,M3.length),(none,0,0)⟩ ⟨L,M1,M2,M3,[]⟩):=jh (by
  have hp:=HPG.out
  have hs:=HSZ.out
  have hw:=HW0.out
  refine⟨(ListR.good stR.good).mono ((ListR.good stR.good).chg HL.out (HC2.out.trans (HC3.out.trans hc4)) (fun g hg e=>by omega)) (fun g hg hs=>⟨by omega,hg⟩),((HM1.out.chg (HC3.out.trans hc4) (fun g hg e=>by omega)).mono (fun g hg hs=>⟨by omega,hg⟩)),((HM2.out.chg hc4 (fun g hg e=>by omega)).mono (fun g hg hs=>⟨by omega,hg⟩)),(hM3.to.mono (fun g hg hs=>⟨by omega,hg⟩)),.nil _ _ _⟩)
 have HG4:=jh hg4
 clear hc4 h4 hM3 hg3 hg4 HL HM1 HM2
 obtain⟨wb,hwb⟩:∃ W,W=w4.alloc (.cells #[.slice a1 L.length L.length,.slice a2 M1.length M1.length,.slice a3 M2.length M2.length,.slice a4 M3.length M3.length,.slice none 0 0] 31):=⟨_,rfl⟩
 have HLP0:Hid (NLp w4.heap.size w4 wb (.slice a1 L.length L.length) (.slice a2 M1.length M1.length) (.slice a3 M2.length M2.length) (.slice a4 M3.length M3.length) (.slice none 0 0) []):=jh (by
  rw [hwb]
  refine⟨?_,?_,?_,?_,⟨?_,World.frozen?_alloc_new _ _ _ _,.nil _ _⟩,(Chg.refl _ w4).alloc _⟩ <;> · rw [World.cell?_alloc_new];rfl)
 have q0:=HLP0.out.c0
 go_upto_region 2 with (fail)
 rw [← hwb]
 clear hwb
 go_wp2
 clear q0
 go_loopw [26] (fun q wr=>∃ (k:Nat) (v:Value),k≤L.length∧q=.int .i64 k∧NLp w4.heap.size w4 wr (.slice a1 L.length L.length) (.slice a2 M1.length M1.length) (.slice a3 M2.length M2.length) (.slice a4 M3.length M3.length) v (decsFrom 0 (L.take k))) (fun q _=>L.length-(intOf q).toNat)
 case atStart=>exact⟨0,_,by omega,rfl,HLP0.out⟩
 case round =>
  clear HLP0
  obtain⟨k,v,hk,rfl,hlp⟩:=hrel
  obtain⟨va,vn,vc,rfl⟩:=hlp.f.own.shape3
  have HLP:=jh hlp
  by_cases hkl:k<L.length
  ·have b9:decide ((k:Int)<(L.length:Int))=true:=by simp;omega
   have hkb:k<16777215:=by have:=HLL.out;omega
   have HIN:=jh ((ListR.good stR.good).chg HNI.out.st hlp.chg (fun g hg e=>by omega))
   clear hlp
   obtain⟨x,d,g,o,hd,hx,ha,hS,hgl,-,hcells⟩:=HIN.out.get3 (f:=encSt) rfl hkl rfl
   obtain⟨xr,⟨ea,en,ec⟩,⟨da,dn,dc⟩⟩:=x
   obtain⟨dr,de,dd⟩:=d
   obtain⟨x0,x1,x2⟩:=hcells _ _ _ rfl
   obtain⟨-,-,-,hdd⟩:=hx
   obtain⟨rfl,hdc⟩:=hdd.len
   simp only at hdc x2
   subst ha
   unfold slV at x1 x2
   simp only at x1 x2
   have HDT:Hid (decsFrom 0 (L.take (k+1))=decsFrom 0 (L.take k)++(if 0<dd.length then [(k:Int)] else [])):=jh (decs_take hd)
   have HW:Hid (NLp w4.heap.size w4 (wr.alloc (.cells #[.int .i64 xr,.slice ea en ec,.slice da dd.length dc] 74)) (.slice (some ⟨g,o,none⟩) L.length L.length) (.slice a2 M1.length M1.length) (.slice a3 M2.length M2.length) (.slice a4 M3.length M3.length) (.slice va vn vc) (decsFrom 0 (L.take k))):=jh (HLP.out.fresh ((Chg.refl _ _).alloc _))
   clear hd hdd HLP
   by_cases hdl:0<dd.length
   ·have b2:decide (0<dd.length)=true:=decide_eq_true hdl
    rw [if_pos hdl] at HDT
    have HXL:Hid ((decsFrom 0 (L.take k)).length≤16777215):=jh (by have:=decsFrom_length (L.take k) 0;rw [List.length_take] at this;have:=HLL.out;omega)
    have HY:Hid (∀ x∈[(k:Int)],intE.ok x):=jh (fun a ha=>by rw [List.mem_singleton] at ha;rw [ha];have:=HLL.out;exact⟨by omega,by omega⟩)
    obtain⟨w5,hw5⟩:∃ W,W=wr.alloc (.cells #[.int .i64 xr,.slice ea en ec,.slice da dd.length dc] 74):=⟨_,rfl⟩
    have HSRC:Hid (Src Tryz.prog intE.sz intE.sl (.slice (some ⟨w5.heap.size,0,none⟩) 1 1) 1 (intE.encs [(k:Int)]) (w5.alloc (.cells #[.int .i64 k] 3))):=jh (intE.srcLit (Y:=[(k:Int)]) 1 HY.out)
    have q5:w5.cell? ⟨w4.heap.size,4,none⟩=some (.slice va vn vc):=by rw [hw5];exact HW.out.f.c
    rw [← hw5] at HW
    have HSW:Hid (w4.heap.size+1≤w5.heap.size):=jh (by have:=HW.out.f.lt;omega)
    go_upto_region 6 with (fail)
    rw [← hw5]
    clear hw5
    go_wp2_with (at_builtin;refine Elt.wpList_append intE rfl _ _ 25 25 rfl rfl (w4.heap.size+1) (.slice va vn vc) (decsFrom 0 (L.take k)) [(k:Int)] (.slice (some ⟨w5.heap.size,0,none⟩) 1 1) rfl rfl (HW.out.f.own.chg ((Chg.refl (fun _=>False) _).alloc _) (fun _ _ _ h=>h)) (by have:=HSW.out;simp;omega) HSRC.out HY.out (by have:=HXL.out;simp;omega) ?_;intro v' w6 HO6 HC6 HN6;clear HN6;obtain⟨na,nn,nc,rfl⟩:=HO6.out.shape3;obtain⟨⟨k1,k2⟩,hn⟩:=HW.out.step HO6.out (((Chg.refl _ w5).alloc _).trans HC6.out);have HN:=jh hn;clear hn)
    rw [← HDT.out] at HN
    go_roundw
    case rel=>exact⟨k+1,_,by omega,by go_num,HN.out⟩
    case measure=>simp [intOf];omega
   ·have b2:decide (0<dd.length)=false:=decide_eq_false hdl
    rw [if_neg hdl,List.append_nil] at HDT
    rw [← HDT.out] at HW
    go_wp2
    go_roundw
    case rel=>exact⟨k+1,_,by omega,by go_num,HW.out⟩
    case measure=>simp [intOf];omega
  ·obtain rfl:k=L.length:=by omega
   have b9:decide ((L.length:Int)<(L.length:Int))=false:=by simp
   rw [List.take_length] at HLP hlp
   obtain⟨a',c',hv,hac,hcl⟩:∃ a c,Value.slice va vn vc=.slice a (decsFrom 0 L).length c∧(decsFrom 0 L).length≤c∧intE.Own wr (w4.heap.size+1) (.slice a (decsFrom 0 L).length (decsFrom 0 L).length) (decsFrom 0 L):=HLP.out.f.own.clip
   injection hv with e1 e2 e3
   subst e1 e2 e3
   have q4:=hlp.f.c
   have z4:=hlp.f.z
   obtain⟨hcl1,HS5⟩:=hlp.step hcl (Chg.refl _ _)
   have HS:=jh HS5
   clear hlp hcl1
   have HCW:Hid (Chg (fun k=>k=pg∨w4.heap.size≤k) w0 (wr.setCell ⟨w4.heap.size,4,none⟩ (.slice va (decsFrom 0 L).length (decsFrom 0 L).length))):=jh ((HC04.out.mono (fun k _ e=>.inl e)).trans (HS5.chg.mono (fun k _ e=>.inr e)))
   have HDL:Hid ((decsFrom 0 L).length≤16777215):=jh (by have:=decsFrom_length L 0;have:=HLL.out;omega)
   obtain⟨D,hD⟩:∃ D,decsFrom 0 L=D:=⟨_,rfl⟩
   have HD:=jh hD
   rw [hD] at hac HS HCW HDL HLP q4 hcl HS5
   clear hD HLP HS5
   go_wp2_with fail
   refine (clipInt wr va D.length vc hac).mono ?_
   rintro e w5 ⟨rfl,rfl⟩
   go_upto_region 9 with (fail)
   obtain⟨w6,hw6⟩:∃ W,W=wr.setCell ⟨w4.heap.size,4,none⟩ (.slice va D.length D.length):=⟨_,rfl⟩
   rw [← hw6] at HS HCW ⊢
   clear hw6 q4 z4
   obtain⟨p0,p1,p2,p3,⟨p4,pz,ho⟩,hch⟩:=HS.out
   have HR:=HCL.out _ w6 HCW.out (by have:=HPG.out;have:=HSZ.out;show ¬ (w.heap.size=pg∨w4.heap.size≤w.heap.size);omega)
   have r0:=(HR 0 (by omega)).1
   have r1':=(HR 1 (by omega)).1
   have r2':=(HR 2 (by omega)).1
   have r3':=(HR 3 (by omega)).1
   have r4':=(HR 4 (by omega)).1
   have y0:=(HR 0 (by omega)).2
   have y1:=(HR 1 (by omega)).2
   have y2:=(HR 2 (by omega)).2
   have y3:=(HR 3 (by omega)).2
   have y4:=(HR 4 (by omega)).2
   obtain⟨k1,-,k3,-⟩:=setAll_spec w.heap.size [.slice a1 L.length L.length,.slice a2 M1.length M1.length,.slice a3 M2.length M2.length,.slice a4 M3.length M3.length,.slice va D.length D.length] 0 w6 (fun j hj=>by
    rw [Nat.zero_add,(HR j (by simpa using hj)).1];rfl)
   have s0:=k1 0 _ rfl
   have s1:=k1 1 _ rfl
   have s2:=k1 2 _ rfl
   have s3:=k1 3 _ rfl
   have s4:=k1 4 _ rfl
   have hcall:=HCW.out
   have HFIN:Hid (NetPost pg gb w Z (.returned (netV ⟨(a1,L.length,L.length),(a2,M1.length,M1.length),(a3,M2.length,M2.length),(a4,M3.length,M3.length),(va,D.length,D.length)⟩)) (setAll w.heap.size 0 [.slice a1 L.length L.length,.slice a2 M1.length M1.length,.slice a3 M2.length M2.length,.slice a4 M3.length M3.length,.slice va D.length D.length] w6)):=jh (by
    have hs:=HSZ.out
    have hp:=HPG.out
    have hw:=HW0.out
    refine⟨(HC0.out.any.trans2 hcall (fun k hk e=>by rcases e with e|e;exact e;omega)).trans2 k3 (fun k hk e=>by omega),.inr ⟨_,_,_,HF.out,rfl,?_,(HG4.out.chg hch (by omega) (by omega)).chg k3 (by omega) (by omega),?_⟩⟩
    ·have h1:=NetIn.good.mono (NetIn.good.chg (NetIn.good.chg HNI.out hch (fun g hg e=>by omega)) k3 (fun g hg e=>by omega)) (S':=fun k=>w.heap.size≤k) (fun g _ hg=>by show w.heap.size≤g;omega)
     refine⟨h1.st,h1.s,h1.p,h1.q,?_⟩
     have h2:=(ho.chg k3 (fun g hg _ e=>by omega)).in' (c':=D.length) (Nat.le_refl _)
     rw [show decsOf L=D from HD.out]
     exact (Elt.In.inS h2).mono (fun g _ hg=>by show w.heap.size≤g;omega)
    ·rw [show decsOf L=D from HD.out];exact HDL.out)
   simp only [setAll,Nat.zero_add] at s0 s1 s2 s3 s4 HFIN
   clear k1 k3 HR hcall ho hch
   go_wp2
   exact bodyPost_ret (v:=.agg #[.slice a1 L.length L.length,.slice a2 M1.length M1.length,.slice a3 M2.length M2.length,.slice a4 M3.length M3.length,.slice va D.length D.length]) (by simp [results,Tryz.results108,go_sem,s0,s1,s2,s3,s4]) rfl HFIN.out
end Go.Proofs.YtgnpmceimpjheaaGreat
