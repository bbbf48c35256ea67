/- 'CodesPut' for whatever tables are handed in: true, and all reads as it did. No condition. -/
import Derived.Test.YtgnpmceimpjheaaGreatGP16
import Derived.Test.YtgnpmceimpjheaaGreatGP17
import Derived.Test.YtgnpmceimpjheaaGreatGP18
import Derived.SizedLaws
import Derived.OpenShut
import Derived.ShutString
import Derived.ChangeOld
import Derived.ProofKit
set_option maxRecDepth 100000
set_option maxHeartbeats 16000000
namespace Go.Proofs.YtgnpmceimpjheaaGreat
open Go.ChangeShapes Go.WideShapes Go.ChangeAt Go.RowKit Go.Deep Go.WideMaps
section
variable {H:Type}{enc:TypeId×Value->H}{W:World}{β δ:Type}{E:Elt β}{R:Rp β δ}
theorem kC {S:Nat->Prop}{Q:δ->Prop}:∀(L:List β),(∀x∈L,∃d,R W S x d/\Q d)->∃D:List δ,L.length=D.length/\(∀(j:Nat) x d,L[j]?=some x->D[j]?=some d->R W S x d)/\∀d∈D,Q d
 | [],_=>⟨[],rfl,λj x d hx=>by simp at hx,λd hd=>by cases hd⟩
 | x :: L,h=>by
  obtain⟨D,h1,h2,h3⟩:=kC L (λy hy=>h y (by simp[hy]));obtain⟨d,h4,h5⟩:=h x sI;refine⟨d :: D,by simp[h1],λj y e hy he=>?_,λe he=>?_⟩
  .cases j with
   | zero=>simp at hy he;subst hy he;exact h4
   | succ j=>simp at hy he;exact h2 j y e hy he
  .rcases Ax3.1 he with rfl|he
   .exact h5
   .exact h3 e he
end
section
variable {H:Type}{enc:TypeId×Value->H}{W:World}
theorem bounds_u8 {x:Int}(h:(Lit.int .u8 x).wf=true):U8 x:=by
 have e1:IntKind.u8.min=0:=rfl;have e2:IntKind.u8.max=255:=rfl;simp[Lit.wf,e1,e2]at h
 exact h
theorem zSh:Tryz.prog.cellsOf 3=1:=kR
theorem zJt:Tryz.prog.cellsOf 25=1:=kR
theorem zTh:Tryz.prog.cellsOf 22=1:=kR
theorem zSe:Tryz.prog.cellsOf 23=1:=kR
theorem zTp:Tryz.prog.cellsOf 72=1:=kR
theorem zSg:Tryz.prog.cellsOf 65=1:=kR
theorem zT8:Tryz.prog.cellsOf 61=1:=kR
theorem c_st:Tryz.prog.cellsOf 29=1:=kR
theorem zT7:Tryz.prog.cellsOf 24=1:=kR
theorem zTk:Tryz.prog.cellsOf 26=1:=kR
theorem zTq:Tryz.prog.cellsOf 32=1:=kR
theorem zTm:Tryz.prog.cellsOf 28=4:=kR
theorem zTj:Tryz.prog.cellsOf 31=5:=kR
theorem zTn:Tryz.prog.cellsOf 69=1:=kR
theorem zSf:Tryz.prog.cellsOf 64=1:=kR
theorem zD4 {fuel:Nat}{cs:List Value}{d:DataW H}{p:List MemPlace}(h:DataW.trod enc Tryz.prog W 0 (λ_=>true) true fuel 22 cs=some (d,p)) (hz:∀n∈d.weights Tryz.prog 22,n<=reachBytes) :
  ∃(a:Option Addr) (c:Nat) (L:List Str),cs=[.slice a L.length c]/\strE.InS W (0<=·) (a,L.length,c) L/\L.length<=100000000000000/\∀s∈L,s.size<=1000000000000000:=by
 obtain⟨a,c,L,h1,h2,h3,h4⟩:=rW strE kR kR (λs=>s.size<=1000000000000000) h hz (λfuel cs' d' pl ht hl hz'=>by
  obtain⟨s,e,hx,_⟩:=DataW.trod_string Tryz.underlying9 ht;simp only[Prod.mk.injEq]at hx;obtain⟨rfl,-⟩:=hx;refine⟨s,e,trivial,?_⟩;have h5:=hz' s.data.toList.length (by rw[DataW.weights];exact Ay3.2 rfl);have h6:s.data.toList.length=s.size:=by rw[Array.length_toList];rfl
  have hrb:reachBytes=140737488351232:=rfl;omega)
 exact⟨a,c,L,h1,h2,by have hrb:reachBytes=140737488351232:=rfl;have:strE.bs=16:=rfl;rw[this]at h4;omega,h3⟩
theorem zHq {fuel:Nat}{cs:List Value}{d:DataW H}{p:List MemPlace}(h:DataW.trod enc Tryz.prog W 0 (λ_=>true) true fuel 23 cs=some (d,p)) (hz:∀n∈d.weights Tryz.prog 23,n<=reachBytes) :
  ∃(a:Option Addr) (c:Nat) (L:List Bool),cs=[.slice a L.length c]/\aA.InS W (0<=·) (a,L.length,c) L/\L.length<=200000000000000:=by
 obtain⟨a,c,L,h1,h2,-,h4⟩:=rW aA kR kR (λ_=>True) h hz (λfuel cs' d' pl ht hl _=>by
  obtain⟨b,e,_⟩:=DataW.trod_bool Tryz.underlying4 ht;exact⟨b,e,trivial,trivial⟩)
 exact⟨a,c,L,h1,h2,by have hrb:reachBytes=140737488351232:=rfl;have:aA.bs=1:=rfl;rw[this]at h4;omega⟩
theorem zKp {fuel:Nat}{cs:List Value}{d:DataW H}{p:List MemPlace}(h:DataW.trod enc Tryz.prog W 0 (λ_=>true) true fuel 26 cs=some (d,p)) (hz:∀n∈d.weights Tryz.prog 26,n<=reachBytes) :
  ∃(a:Option Addr) (c:Nat) (L:List (List Int)),cs=[.slice a L.length c]/\zJ nW (inR intE) W (0<=·) (a,L.length,c) L/\L.length<=100000000000000/\∀l∈L,l.length<=100000000000000:=by
 obtain⟨a,c,X,h1,h2,h3,h4⟩:=rW nW kR kR (λx=>∃d:List Int,inR intE W (0<=·) x d/\d.length<=100000000000000) h hz (λfuel cs' d' pl ht hl hz'=>by
  obtain⟨a,c,L,h1,h2,h3⟩:=pJ ht hz';exact⟨(a,L.length,c),h1,trivial,L,h2,h3⟩)
 obtain⟨D,g1,g2,g3⟩:=kC X h3;rw[g1]at h1 h4 h2;exact⟨a,c,D,h1,⟨X,h2,g1,g2⟩,by have hrb:reachBytes=140737488351232:=rfl;have:nW.bs=24:=rfl;rw[this]at h4;omega,g3⟩
theorem zKn {fuel:Nat}{cs:List Value}{d:DataW H}{p:List MemPlace}(h:DataW.trod enc Tryz.prog W 0 (λ_=>true) true fuel 24 cs=some (d,p)) (hz:∀n∈d.weights Tryz.prog 24,n<=reachBytes) :
  ∃(a:Option Addr) (c:Nat) (L:List (Int×Int)),cs=[.slice a L.length c]/\rngE.InS W (0<=·) (a,L.length,c) L/\L.length<=100000000000000:=by
 obtain⟨a,c,L,h1,h2,-,h4⟩:=rW rngE kR kR (λ_=>True) h hz (λfuel cs' d' pl ht hl _=>by
  obtain⟨xs,n',_,_,_,hxl,hg⟩:=DataW.trod_struct Tryz.underlying117 ht
  match cs',hl with
  | [k0,k1],_ =>
   have hxs:xs.length=2:=hxl;have g0:=hg 0 _ rfl;have g1:=hg 1 _ rfl;rw[Az oM]at g0 g1;obtain⟨x0,e0,_,w0⟩:=DataW.trod_int Tryz.underlying21 g0;obtain⟨x1,e1,_,w1⟩:=DataW.trod_int Tryz.underlying21 g1;simp[zQc]at e0 e1
   subst e0 e1;exact⟨(x0,x1),rfl,⟨zEq w0,zEq w1⟩,trivial⟩)
 exact⟨a,c,L,h1,h2,by have hrb:reachBytes=140737488351232:=rfl;have:rngE.bs=8:=rfl;rw[this]at h4;omega⟩
theorem zKq {fuel:Nat}{cs:List Value}{d:DataW H}{p:List MemPlace}(h:DataW.trod enc Tryz.prog W 0 (λ_=>true) true fuel 72 cs=some (d,p)) (hz:∀n∈d.weights Tryz.prog 72,n<=reachBytes) :
  ∃(a:Option Addr) (c:Nat) (L:List qS),cs=[.slice a L.length c]/\qC.InS W (0<=·) (a,L.length,c) L/\L.length<=100000000000000:=by
 obtain⟨a,c,L,h1,h2,-,h4⟩:=rW qC kR kR (λ_=>True) h hz (λfuel cs' d' pl ht hl _=>by
  obtain⟨xs,n',_,_,_,hxl,hg⟩:=DataW.trod_struct Tryz.underlying71 ht
  match cs',hl with
  | [k0,k1,k2],_ =>
   have hxs:xs.length=3:=hxl;have g0:=hg 0 _ rfl;have g1:=hg 1 _ rfl;have g2:=hg 2 _ rfl;rw[Az oM]at g0 g1 g2;obtain⟨x0,e0,_,w0⟩:=DataW.trod_int Tryz.underlying69 g0;obtain⟨x1,e1,_,w1⟩:=DataW.trod_int Tryz.underlying3 g1;obtain⟨x2,e2,_,w2⟩:=DataW.trod_int Tryz.underlying3 g2;simp[zTn,zSh]at e0 e1 e2
   subst e0 e1 e2;exact⟨(x0,x1,x2),rfl,⟨bounds_u8 w0,bounds_i64 w1,bounds_i64 w2⟩,trivial⟩)
 exact⟨a,c,L,h1,h2,by have hrb:reachBytes=140737488351232:=rfl;have:qC.bs=24:=rfl;rw[this]at h4;omega⟩
theorem zHp {fuel:Nat}{cs:List Value}{d:DataW H}{p:List MemPlace}(h:DataW.trod enc Tryz.prog W 0 (λ_=>true) true fuel 65 cs=some (d,p)) (hz:∀n∈d.weights Tryz.prog 65,n<=reachBytes) :
  ∃(a:Option Addr) (c:Nat) (L:List (Int×Int)),cs=[.slice a L.length c]/\rY.InS W (0<=·) (a,L.length,c) L/\L.length<=100000000000000:=by
 obtain⟨a,c,L,h1,h2,-,h4⟩:=rW rY kR kR (λ_=>True) h hz (λfuel cs' d' pl ht hl _=>by
  obtain⟨xs,n',_,_,_,hxl,hg⟩:=DataW.trod_struct Tryz.underlying149 ht
  match cs',hl with
  | [k0,k1],_ =>
   have hxs:xs.length=2:=hxl;have g0:=hg 0 _ rfl;have g1:=hg 1 _ rfl;rw[Az oM]at g0 g1;obtain⟨x0,e0,_,w0⟩:=DataW.trod_int Tryz.underlying3 g0;obtain⟨x1,e1,_,w1⟩:=DataW.trod_int Tryz.underlying3 g1;simp[zSh]at e0 e1
   subst e0 e1;exact⟨(x0,x1),rfl,⟨bounds_i64 w0,bounds_i64 w1⟩,trivial⟩)
 exact⟨a,c,L,h1,h2,by have hrb:reachBytes=140737488351232:=rfl;have:rY.bs=16:=rfl;rw[this]at h4;omega⟩
theorem zPw {fuel:Nat}{cs:List Value}{d:DataW H}{p:List MemPlace}(h:DataW.trod enc Tryz.prog W 0 (λ_=>true) true fuel 29 cs=some (d,p)) (hz:∀n∈d.weights Tryz.prog 29,n<=reachBytes) :
  ∃(a:Option Addr) (c:Nat) (L:List StD),cs=[.slice a L.length c]/\zJ stE stR W (0<=·) (a,L.length,c) L/\L.length<=100000000000000/\∀s∈L,s.2.1.length<=100000000000000/\s.2.2.length<=100000000000000:=by
 obtain⟨a,c,X,h1,h2,h3,h4⟩:=rW stE kR kR (λx=>∃d:StD,stR W (0<=·) x d/\(d.2.1.length<=100000000000000/\d.2.2.length<=100000000000000)) h hz (λfuel cs' d' pl ht hl hz'=>by
  obtain⟨xs,n',_,hd,_,hxl,hg⟩:=DataW.trod_struct Tryz.underlying74 ht;simp only[Prod.mk.injEq]at hd;obtain⟨rfl,-⟩:=hd
  match cs',hl with
  | [k0,k1,k2],_ =>
   have hxs:xs.length=3:=hxl;have g0:=hg 0 _ rfl;have g1:=hg 1 _ rfl;have g2:=hg 2 _ rfl;rw[Az oM]at g0 g1 g2;obtain⟨x0,e0,_,w0⟩:=DataW.trod_int Tryz.underlying3 g0;obtain⟨ea,ec,EE,e1,hE,hEl⟩:=zKq (d:=xs[1].1) (p:=xs[1].2) g1 (λn hn=>hz' n (yY Tryz.underlying74 (i:=1) rfl (by rw[Aw,Az oM];rfl) hn));obtain⟨da,dc,DD,e2,hD,hDl⟩:=pJ (d:=xs[2].1) (p:=xs[2].2) g2 (λn hn=>hz' n (yY Tryz.underlying74 (i:=2) rfl (by rw[Aw,Az oM];rfl) hn));simp[zSh,zTp,zJt]at e0 e1 e2
   subst e0 e1 e2;exact⟨(x0,(ea,EE.length,ec),(da,DD.length,dc)),rfl,bounds_i64 w0,(x0,EE,DD),⟨rfl,bounds_i64 w0,hE,hD⟩,hEl,hDl⟩)
 obtain⟨D,g1,g2,g3⟩:=kC X h3;rw[g1]at h1 h4 h2;exact⟨a,c,D,h1,⟨X,h2,g1,g2⟩,by have hrb:reachBytes=140737488351232:=rfl;have:stE.bs=56:=rfl;rw[this]at h4;omega,g3⟩
theorem zMp {fuel:Nat}{cs:List Value}{d:DataW H}{p:List MemPlace}(h:DataW.trod enc Tryz.prog W 0 (λ_=>true) true fuel 61 cs=some (d,p)) (hz:∀n∈d.weights Tryz.prog 61,n<=reachBytes) :
  ∃(a:Option Addr) (c:Nat) (L:List LsD),cs=[.slice a L.length c]/\zJ lsE lsR W (0<=·) (a,L.length,c) L/\L.length<=100000000000000/\∀s∈L,s.2.1.length<=100000000000000/\s.2.2.length<=100000000000000:=by
 obtain⟨a,c,X,h1,h2,h3,h4⟩:=rW lsE kR kR (λx=>∃d:LsD,lsR W (0<=·) x d/\(d.2.1.length<=100000000000000/\d.2.2.length<=100000000000000)) h hz (λfuel cs' d' pl ht hl hz'=>by
  obtain⟨xs,n',_,hd,_,hxl,hg⟩:=DataW.trod_struct Tryz.underlying67 ht;simp only[Prod.mk.injEq]at hd;obtain⟨rfl,-⟩:=hd
  match cs',hl with
  | [k0,k1,k2],_ =>
   have hxs:xs.length=3:=hxl;have g0:=hg 0 _ rfl;have g1:=hg 1 _ rfl;have g2:=hg 2 _ rfl;rw[Az oM]at g0 g1 g2;obtain⟨x0,e0,_,w0⟩:=DataW.trod_int Tryz.underlying64 g0;obtain⟨ea,ec,EE,e1,hE,hEl⟩:=pJ (d:=xs[1].1) (p:=xs[1].2) g1 (λn hn=>hz' n (yY Tryz.underlying67 (i:=1) rfl (by rw[Aw,Az oM];rfl) hn));obtain⟨da,dc,DD,e2,hD,hDl⟩:=zHp (d:=xs[2].1) (p:=xs[2].2) g2 (λn hn=>hz' n (yY Tryz.underlying67 (i:=2) rfl (by rw[Aw,Az oM];rfl) hn));simp[zSf,zJt,zSg]at e0 e1 e2
   subst e0 e1 e2;exact⟨(x0,(ea,EE.length,ec),(da,DD.length,dc)),rfl,bounds_u8 w0,(x0,EE,DD),⟨rfl,bounds_u8 w0,hE,hD⟩,hEl,hDl⟩)
 obtain⟨D,g1,g2,g3⟩:=kC X h3;rw[g1]at h1 h4 h2;exact⟨a,c,D,h1,⟨X,h2,g1,g2⟩,by have hrb:reachBytes=140737488351232:=rfl;have:lsE.bs=56:=rfl;rw[this]at h4;omega,g3⟩
theorem zKr {fuel:Nat}{cs:List Value}{d:DataW H}{p:List MemPlace}(h:DataW.trod enc Tryz.prog W 0 (λ_=>true) true fuel 32 cs=some (d,p)) (hz:∀n∈d.weights Tryz.prog 32,n<=reachBytes) :
  ∃(a:Option Addr) (c:Nat) (L:List (List LsD)),cs=[.slice a L.length c]/\zJ zA7 mA W (0<=·) (a,L.length,c) L/\L.length<=100000000000000/\∀A∈L,A.length<=100000000000000/\∀s∈A,s.2.1.length<=100000000000000/\s.2.2.length<=100000000000000:=by
 obtain⟨a,c,X,h1,h2,h3,h4⟩:=rW zA7 kR kR (λx=>∃d:List LsD,mA W (0<=·) x d/\(d.length<=100000000000000/\∀s∈d,s.2.1.length<=100000000000000/\s.2.2.length<=100000000000000)) h hz (λfuel cs' d' pl ht hl hz'=>by
  obtain⟨xs,n',_,hd,_,hxl,hg⟩:=DataW.trod_struct Tryz.underlying63 ht;simp only[Prod.mk.injEq]at hd;obtain⟨rfl,-⟩:=hd
  match cs',hl with
  | [k0],_ =>
   have hxs:xs.length=1:=hxl;have g0:=hg 0 _ rfl;rw[Az oM]at g0;obtain⟨ea,ec,EE,e0,hE,hEl,hEs⟩:=zMp (d:=xs[0].1) (p:=xs[0].2) g0 (λn hn=>hz' n (yY Tryz.underlying63 (i:=0) rfl (by rw[Aw,Az oM];rfl) hn));simp[zT8]at e0
   subst e0;exact⟨(ea,EE.length,ec),rfl,trivial,EE,hE,hEl,hEs⟩)
 obtain⟨D,g1,g2,g3⟩:=kC X h3;rw[g1]at h1 h4 h2;exact⟨a,c,D,h1,⟨X,h2,g1,g2⟩,by have hrb:reachBytes=140737488351232:=rfl;have:zA7.bs=24:=rfl;rw[this]at h4;omega,g3⟩
theorem zPy {fuel:Nat}{cs:List Value}{d:DataW H}{p:List MemPlace}(h:DataW.trod enc Tryz.prog W 0 (λ_=>true) true fuel 28 cs=some (d,p)) (hz':∀n∈d.weights Tryz.prog 28,n<=reachBytes) (hl:cs.length=4) :
  ∃(t:LexD) (m:LexS),cs=[slV m.r,slV m.c,slV m.n,slV m.e]/\LexIn W (0<=·) m t/\Vast t:=by
 obtain⟨xs,n',_,hd,_,hxl,hg⟩:=DataW.trod_struct Tryz.underlying28 h;simp only[Prod.mk.injEq]at hd;obtain⟨rfl,-⟩:=hd
 match cs,hl with
 | [k0,k1,k2,k3],_ =>
  have hxs:xs.length=4:=hxl;have g0:=hg 0 _ rfl;have g1:=hg 1 _ rfl;have g2:=hg 2 _ rfl;have g3:=hg 3 _ rfl;rw[Az oM]at g0 g1 g2 g3;obtain⟨ra,rc,R,e0,hR,hRl⟩:=zKn (d:=xs[0].1) (p:=xs[0].2) g0 (λn hn=>hz' n (yY Tryz.underlying28 (i:=0) rfl (by rw[Aw,Az oM];rfl) hn));obtain⟨ca,cc,C,e1,hC,hCl⟩:=pJ (d:=xs[1].1) (p:=xs[1].2) g1 (λn hn=>hz' n (yY Tryz.underlying28 (i:=1) rfl (by rw[Aw,Az oM];rfl) hn));obtain⟨na,nc,N,e2,hN,hNl,hNr⟩:=zKp (d:=xs[2].1) (p:=xs[2].2) g2 (λn hn=>hz' n (yY Tryz.underlying28 (i:=2) rfl (by rw[Aw,Az oM];rfl) hn));obtain⟨ea,ec,E,e3,hE,hEl⟩:=pJ (d:=xs[3].1) (p:=xs[3].2) g3 (λn hn=>hz' n (yY Tryz.underlying28 (i:=3) rfl (by rw[Aw,Az oM];rfl) hn));simp[zT7,zJt,zTk]at e0 e1 e2 e3
  subst e0 e1 e2 e3;exact⟨⟨R,C,N,E⟩,⟨(ra,R.length,rc),(ca,C.length,cc),(na,N.length,nc),(ea,E.length,ec)⟩,rfl,⟨hR,hC,hN,hE⟩,⟨hRl,hCl,hNl,hEl,hNr⟩⟩
theorem zPx {fuel:Nat}{cs:List Value}{d:DataW H}{p:List MemPlace}(h:DataW.trod enc Tryz.prog W 0 (λ_=>true) true fuel 31 cs=some (d,p)) (hz':∀n∈d.weights Tryz.prog 31,n<=reachBytes) (hl:cs.length=5) :
  ∃(t:NetD) (m:NetS),cs=[slV m.st,slV m.s,slV m.p,slV m.q,slV m.d]/\NetIn W (0<=·) m t/\VastN t:=by
 obtain⟨xs,n',_,hd,_,hxl,hg⟩:=DataW.trod_struct Tryz.underlying31 h;simp only[Prod.mk.injEq]at hd;obtain⟨rfl,-⟩:=hd
 match cs,hl with
 | [k0,k1,k2,k3,k4],_ =>
  have hxs:xs.length=5:=hxl;have g0:=hg 0 _ rfl;have g1:=hg 1 _ rfl;have g2:=hg 2 _ rfl;have g3:=hg 3 _ rfl;have g4:=hg 4 _ rfl;rw[Az oM]at g0 g1 g2 g3 g4;obtain⟨sa,sc,ST,e0,hS,hSl,hSs⟩:=zPw (d:=xs[0].1) (p:=xs[0].2) g0 (λn hn=>hz' n (yY Tryz.underlying31 (i:=0) rfl (by rw[Aw,Az oM];rfl) hn));obtain⟨a1,c1,L1,e1,h1,l1⟩:=pJ (d:=xs[1].1) (p:=xs[1].2) g1 (λn hn=>hz' n (yY Tryz.underlying31 (i:=1) rfl (by rw[Aw,Az oM];rfl) hn));obtain⟨a2,c2,L2,e2,h2,l2⟩:=pJ (d:=xs[2].1) (p:=xs[2].2) g2 (λn hn=>hz' n (yY Tryz.underlying31 (i:=2) rfl (by rw[Aw,Az oM];rfl) hn));obtain⟨a3,c3,L3,e3,h3,l3⟩:=pJ (d:=xs[3].1) (p:=xs[3].2) g3 (λn hn=>hz' n (yY Tryz.underlying31 (i:=3) rfl (by rw[Aw,Az oM];rfl) hn));obtain⟨a4,c4,L4,e4,h4,l4⟩:=pJ (d:=xs[4].1) (p:=xs[4].2) g4 (λn hn=>hz' n (yY Tryz.underlying31 (i:=4) rfl (by rw[Aw,Az oM];rfl) hn));simp[c_st,zJt]at e0 e1 e2 e3 e4
  subst e0 e1 e2 e3 e4;exact⟨⟨ST,L1,L2,L3,L4⟩,⟨(sa,ST.length,sc),(a1,L1.length,c1),(a2,L2.length,c2),(a3,L3.length,c3),(a4,L4.length,c4)⟩,rfl,⟨hS,h1,h2,h3,h4⟩,⟨hSl,l1,l2,l3,l4,hSs⟩⟩
theorem zSs:Tryz.prog.cellsOf 34=13:=kR
theorem zMn {v:Value}{d:DataW H}{p:List MemPlace}{b0:Nat}(hv:Value.okWide Tryz.prog W .any b0 34 v) (h:DataW.Trod enc Tryz.prog W 0 (λ_=>true) true 34 v d p) (hz':∀n∈d.weights Tryz.prog 34,n<=reachBytes) :
  ∃(t:TabsD) (m:TabsS),v=gY m/\TabsIn W (0<=·) m t/\VastT t:=by
 obtain⟨xs,rfl,hs⟩:=okWide_struct Tryz.underlying34 hv;obtain⟨fuel,hf⟩:=h;obtain⟨ys,m,_,hd,_,hyl,hg⟩:=DataW.trod_struct Tryz.underlying34 hf;simp only[Prod.mk.injEq]at hd;obtain⟨rfl,-⟩:=hd;obtain⟨l⟩:=xs;rw[zSs]at hs
 match l,hs with
 | [k0,k1,k2,k3,k4,k5,k6,k7,k8,k9,k10,k11,k12],_ =>
  have hys:ys.length=6:=hyl;have g0:=hg 0 _ rfl;have g1:=hg 1 _ rfl;have g2:=hg 2 _ rfl;have g3:=hg 3 _ rfl;have g4:=hg 4 _ rfl;have g5:=hg 5 _ rfl;rw[Az oM]at g0 g1 g2 g3 g4 g5;obtain⟨ra,rc,RL,e0,h0,l0,s0⟩:=zD4 (d:=ys[0].1) (p:=ys[0].2) g0 (λn hn=>hz' n (yY Tryz.underlying34 (i:=0) rfl (by rw[Aw,Az oM];rfl) hn));obtain⟨ta,tc,TK,e1,h1,l1,s1⟩:=zD4 (d:=ys[1].1) (p:=ys[1].2) g1 (λn hn=>hz' n (yY Tryz.underlying34 (i:=1) rfl (by rw[Aw,Az oM];rfl) hn));obtain⟨da,dc,DR,e2,h2,l2⟩:=zHq (d:=ys[2].1) (p:=ys[2].2) g2 (λn hn=>hz' n (yY Tryz.underlying34 (i:=2) rfl (by rw[Aw,Az oM];rfl) hn));obtain⟨LX,mx,e3,h3,l3⟩:=zPy (d:=ys[3].1) (p:=ys[3].2) g3 (λn hn=>hz' n (yY Tryz.underlying34 (i:=3) rfl (by rw[Aw,Az oM];rfl) hn)) (by simp[Value.cells,zTm]);obtain⟨NT,mn,e4,h4,l4⟩:=zPx (d:=ys[4].1) (p:=ys[4].2) g4 (λn hn=>hz' n (yY Tryz.underlying34 (i:=4) rfl (by rw[Aw,Az oM];rfl) hn)) (by simp[Value.cells,zTj]);obtain⟨la,lc,LK,e5,h5,l5,s5⟩:=zKr (d:=ys[5].1) (p:=ys[5].2) g5 (λn hn=>hz' n (yY Tryz.underlying34 (i:=5) rfl (by rw[Aw,Az oM];rfl) hn));simp[Value.cells,zTh,zSe,zTm,zTj,zTq]at e0 e1 e2 e3 e4 e5
  obtain⟨x0,x1,x2,x3⟩:=e3;obtain⟨y0,y1,y2,y3,y4⟩:=e4;subst e0 e1 e2 e5 x0 x1 x2 x3 y0 y1 y2 y3 y4;exact⟨⟨RL,TK,DR,LX,NT,LK⟩,⟨(ra,RL.length,rc),(ta,TK.length,tc),(da,DR.length,dc),mx,mn,(la,LK.length,lc)⟩,rfl,⟨h0,h1,h2,h3,h4,h5⟩,⟨l0,l1,l2,s0,s1,l3,l4,l5,s5⟩⟩
end
end Go.Proofs.YtgnpmceimpjheaaGreat
namespace Go.Proofs.YtgnpmceimpjheaaGreat.codesPut
open Go.ChangeShapes Go.WideShapes Go.ChangeAt Go.RowKit Go.Deep Go.WideMaps
theorem lifted (os:Os) (started:os.Started) (H:Type) (enc:TypeId×Value->H) :
  ReturnsInHanded {} Tryz.checked os 3 .any (Rows.codesPutSpec.pre6 enc Tryz.prog Tryz.f3 Rows.codesPutRow.domain false) (Rows.codesPutSpec.post enc Tryz.prog Tryz.f3 false true false false):=by
 refine returnsInHanded_of_change_sized (C:=Tryz.checked) own started kR Tryz.func3
  (ChangeSpec.witness6 (enc:=enc) (C:=Tryz.checked) false ⟨#[],#[.agg #[.slice none 0 0,.slice none 0 0,.slice none 0 0,.slice none 0 0,.slice none 0 0,.slice none 0 0,.slice none 0 0,.slice none 0 0,.slice none 0 0,.slice none 0 0,.slice none 0 0,.slice none 0 0,.slice none 0 0]],[]⟩ 8 kR kR kR kR) ?_
 intro W base args ds gs before hval0 hW hcnd hsz0 _;have hval:∀(j:Nat) t v,Tryz.f3.params[j]?=some t->args[j]?=some v->Value.okWide Tryz.prog W .any base t v:=hval0;have hW':=hW;obtain⟨p,q,hA0,hV,rfl,hfz,hnd⟩:=hW;have hA:DataW.TrodAll enc Tryz.prog W 0 (λ_=>true) true Tryz.f3.params.toList args.toList ds p:=hA0;rw[Tryz.params3]at hA hval hsz0;obtain⟨v0,vs0,d0,ds0,p0,q0,hargs,rfl,rfl,h0,r0⟩:=trodAll_cons hA;obtain⟨rfl,rfl,rfl⟩:=trodAll_nil r0;obtain rfl:args=#[v0]:=by cases args;simp_all
 obtain⟨rfl,rfl⟩:=trodVars_none hV;have k0:=h0;have lt0:∀x∈p0,x.block<W.heap.size:=by obtain⟨m,hm⟩:=k0;exact DataW.trod_lt m _ _ _ hm
 have hszA:∀n∈d0.weights Tryz.prog 34,n<=reachBytes:=λn hn=>by
  have:=Ax5.1 hsz0 n (DataW.weights_mem_each (j:=0) rfl rfl n hn);simpa using this
 obtain⟨t,m,rfl,hT,hV9⟩:=zMn (hval 0 34 v0 rfl rfl) h0 hszA;clear hA0 hval0;refine (zG1 t m (0<=·) W hT hV9).mono λe W' ⟨he,hc⟩=>?_
 subst he;have bel:=hc.to_below;exact⟨_,rfl,_,_,_,[],_,[],hW',trodAll_mk1 (shut_bool Tryz.underlying4 _),(trodAll_cons_mk (Below.trod zRz kR (of_decide_eq_true kR) k0 bel lt0) trodAll_mk0),rfl,bel.frame _,λh=>by cases h⟩
theorem proved:Rows.CodesPutSaid :=
 OpenClaim.holds_of_wide 3 Tryz.f3 rfl rfl rfl rfl rfl rfl rfl ⟨rfl,rfl,rfl,rfl,rfl⟩ rfl rfl rfl rfl rfl kR Tryz.func3 kR
  (of_decide_eq_true kR) (by unfold Func.isWrapper;first|(rw[if_pos (by decide +kernel)];kernel_rfl)|(rw[if_neg (by decide +kernel)];exact⟨rfl,rfl⟩))
  (λos started H enc _=>lifted os started H enc)
#print axioms proved
end Go.Proofs.YtgnpmceimpjheaaGreat.codesPut
