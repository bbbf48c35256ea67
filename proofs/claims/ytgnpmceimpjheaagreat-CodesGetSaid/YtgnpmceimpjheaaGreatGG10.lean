/- A part of the proof: EncT EncO PtL DGa DGb DGr Tally RefOfR RefOfB RowsX RefMake. -/
import Derived.Test.YtgnpmceimpjheaaGreatGG9
set_option maxRecDepth 100000
set_option maxHeartbeats 16000000
namespace Go.Proofs.YtgnpmceimpjheaaGreat
open Go.RowKit Go.Proofs.Tryz
variable {a b c d e f g h i j k l m n o p q r:Nat}{w v u t s:World}{X Y W L T:List Int}{A B C E Z:Value}{x y z:Int}{N R:Bool}{F Q:Option Addr}{S P:Nat->Prop}
theorem ij {α β:Type}:∀(l:List (α×β)),(l.map (·.1)).zip (l.map (·.2))=l
 | []=>rfl
 | x :: l=>by simp[ij l]
theorem ec {α β:Type}:∀(a:List α) (b:List β),a.length=b.length->(a.zip b).map (·.1)=a
 | [],[],_=>rfl
 | [],_ :: _,h=>by simp at h
 | _ :: _,[],h=>by simp at h
 | x :: a,y :: b,h=>by simp only[List.zip_cons_cons,List.map_cons];rw[ec a b (by simpa using h)]
theorem ed {α β:Type}:∀(a:List α) (b:List β),a.length=b.length->(a.zip b).map (·.2)=b
 | [],[],_=>rfl
 | [],_ :: _,h=>by simp at h
 | _ :: _,[],h=>by simp at h
 | x :: a,y :: b,h=>by simp only[List.zip_cons_cons,List.map_cons];rw[ed a b (by simpa using h)]
structure OkLex (t:LexD):Prop where
 cl:t.c.length=t.r.length
 el:t.e.length=t.n.length
 rl:t.r.length<=16777215
 rc:∀x∈t.r.zip t.c,okRc x
 cw:vC t.c<=65536
 nl:t.n.length<=65536
 mo:uQ (vC t.c) t.n=true
 pr:(t.n.length:Int) * vC t.c<=4194304
 eb:∀e∈t.e,qj e
theorem Bi:Back lexG gQ OkLex:=by
 rintro a k ⟨b,f,m,g,h,i,c,d,j⟩;obtain⟨l,e⟩:=Ax3 (tE a.c);unfold lexG gQ;simp only[Az7];rw[pC Ag (a.r.zip a.c) _ ⟨by rw[Au5];omega,g⟩];simp only;rw[e]at h c d ⊢;rw[fp _ H i c d];simp only;rw[ed _ _ b.symm,ec _ _ b.symm,if_pos e.symm];have:=fl Ah a.e [] k j;rw[f,Av]at this;rw[this]
theorem Bj {a:LexD}(f:∀g∈X,Byte g) (j:lexG X=some (a,Y)):X=gQ a++Y/\vC a.c<=65536:=by
 obtain⟨t,q,u,r,c,k,d,l,m,e⟩:=pt j;have n:=(ad qi).byte f c;obtain⟨h,o,v,p,-,-⟩:=ig n k;obtain⟨M,b,s,i⟩:=fm Ai _ _ _ _ _ o l;rw[Av]at b;rw[e,<-d];refine⟨?_,p⟩;rw[ad qi _ _ _ f c,h,i];unfold gQ;rw[m,e,ij,<-d,b];simp only[Az7]
structure OkNet (n:NetD):Prop where
 st:okL qg n.st
 s:okL (okN 16777215) n.s
 p:okL (okN 16777215) n.p
 q:okL (okN 16777215) n.q
 d:vA n.st=n.d
theorem Bk:Back netG dJ OkNet:=by
 rintro g f ⟨a,b,c,d,e⟩;unfold netG dJ;simp only[Az7];rw[pC Af _ _ a];simp only;rw[pC pQ _ _ b];simp only;rw[pC pQ _ _ c];simp only;rw[pC pQ _ _ d];simp only;rw[e]
theorem qq:Only netG dJ:=by
 intro j n o d g;obtain⟨k,l,m,a,b,c,h,-⟩:=pu g;have e:=(ad qh).byte d a;have f:=(ad ae).byte e b;have i:=(ad ae).byte f c;rw[ad qh _ _ _ d a,ad ae _ _ _ e b,ad ae _ _ _ f c,ad ae _ _ _ i h];simp only[dJ,Az7]
theorem qr (e:Int):∀(b:List Int) (a:Nat),rQ e b.length (zN e a b) a=b
 | [],_=>rfl
 | j :: b,a=>by
  have f:=qr e b (a+1);simp only[zN,Ax2];by_cases g:j=e
  .rw[if_pos g]
   cases c:zN e (a+1) b with
   | nil=>rw[c]at f;simp only[rQ,f,g]
   | cons d l =>
    rw[c]at f;have i:∀(b:List Int) (a:Nat),∀d∈zN e a b,(a:Int)<=d.1:=by
     intro b
     induction b with
     | nil=>intro a d c;simp[zN]at c
     | cons m b h =>
      intro a d c;simp only[zN]at c
      split at c
      .have:=h (a+1) d c;omega
      rcases Ax5.1 c with rfl|c
      .exact Int.le_refl _
      have:=h (a+1) d c;omega
    have k:=i b (a+1) d (by rw[c];simp);simp only[rQ];rw[if_neg H,f,g]
  rw[if_neg g]
  simp only[rQ,if_true];rw[f]
def bN (b:List (Int×Int)):List (Int×Int):=b.map (λa=>(a.1+1,a.2))
theorem qs (b:Nat) (a:List (Int×Int)):yU b a=ac (b+1) (-1,bN a):=by
 unfold yU ac bN;simp only;rw[List.foldl_map]
theorem qt:∀(b:List Int) (a:Nat),(∀c∈b,-1<=c)->xG ((a:Int)-1) b=(zN (-1) a b).map (λd=>(d.1-1,d.2))
 | [],_,_=>rfl
 | c :: b,a,e=>by
  have h:=qt b (a+1) (λi g=>e i (by simp[g]));have j:=e c sI;simp only[xG,zN];rw[show ((a:Int)-1)+1=((a+1:Nat):Int)-1 by omega,h];by_cases f:c=-1
  .rw[if_neg H,if_pos f]
  rw[if_pos H,if_neg f];rfl
theorem qu (b:∀c∈X,-1<=c):qY X=(zN (-1) 0 X).map (λa=>(a.1-1,a.2)):=qt X 0 b
theorem Bl (b:List (Int×Int)):bN (b.map (λa=>(a.1-1,a.2)))=b:=by
 unfold bN;rw[List.map_map]
 conv=>rhs;rw[<-List.map_id b]
 refine List.map_congr_left (λa _=>?_);simp only[Function.comp,id];rw[show a.1-1+1=a.1 by omega]
theorem Bm (b:List (Int×Int)):(bN b).map (λa=>(a.1-1,a.2))=b:=by
 unfold bN;rw[List.map_map]
 conv=>rhs;rw[<-List.map_id b]
 refine List.map_congr_left (λa _=>?_);simp only[Function.comp,id];rw[show a.1+1-1=a.1 by omega]
theorem Bn (e:X.length=a+1) (d:∀b∈X,kE b):yU a (qY X)=X:=by
 rw[qs,qu (λb f=>(d b f).1),Bl,<-e];have c:=gc (-1) X 0 (-1) H d;rw[Ax]at c;have:=cC (-1) X.length X.length (zN (-1) 0 X) 0 [] D H c;rw[Av,Av,qr]at this;exact this
theorem qv :∀(b:List (Int×Int)) (d:Int),vG (b.map (·.1)) d x=true->(∀a∈b,0<=a.2/\a.2<=16777215)->yS (x+1) (-1) d (bN b)=true
 | [],_,_,_=>rfl
 | a :: b,d,c,e=>by
  simp only[List.map_cons,vG]at c
  split at c
  .cases c
  rename_i i
  have j:=e a sI;have g:=qv b (a.1+1) c (λh f=>e h (by simp[f]));simp only[bN,List.map_cons,yS,Ay6,decide_eq_true_eq,Aw2,decide_eq_false_iff_not];exact⟨⟨⟨⟨H,H⟩,H,H⟩,H⟩,g⟩
theorem fC {b:List (Int×Int)}(i:vG (b.map (·.1)) (-1) a=true) (k:∀e∈b,0<=e.2/\e.2<=16777215):(yU a b).length=a+1/\(∀d∈yU a b,kE d)/\qY (yU a b)=b:=by
 have j:=qv b (-1) i k;have c:yS ((0+(a+1):Nat):Int) (-1) (((0:Nat):Int)-1) (bN b)=true:=by
  rw[show ((0+(a+1):Nat):Int)=(a:Int)+1 by omega];exact j
 have f:=cC (-1) _ (a+1) (bN b) 0 [] D D c;rw[Av,Av]at f;have h:yU a b=rQ (-1) (a+1) (bN b) 0:=by rw[qs];exact f
 have g:=jU (-1) _ ⟨H,H⟩ (a+1) (bN b) 0 _ c;rw[h];refine⟨jE _ _ _ _,g,?_⟩;rw[qu (λd l=>(g d l).1),kJ (-1) _ (a+1) (bN b) 0 D c,Bm]
structure OkLs (tk:Nat) (s:LsD):Prop where
 k:okN 3 s.1
 a:okL (okN 16777215) s.2.1
 r:vG (s.2.2.map (·.1)) (-1) tk=true
 t:∀e∈s.2.2,0<=e.2/\e.2<=16777215
theorem dQ {c:List LsD}(d:∀b∈c,OkLs a b):uQ ((a:Int)+1) (c.map (λb=>yU a b.2.2))=true:=by
 unfold uQ;rw[Aw0];intro k h;obtain⟨b,e,rfl⟩:=Au.1 h;obtain⟨f,g,-⟩:=fC (d b e).r (d b e).t;simp only[nE,Ay6,decide_eq_true_eq,Aw2];refine⟨?_,by rw[f];rfl⟩;unfold tN;rw[Aw4];intro j i;have:=g j i;simp only[valB,Aw2,decide_eq_false_iff_not,Classical.not_not];exact this
theorem Bo (c:Nat) (q:c<=64):Back (fW c) (uA c) (λb=>b.length<=4096/\∀a∈b,OkLs c a):=by
 rintro b k ⟨f,d⟩;unfold fW uA;simp only[Az7];have m:Back lsG ptLs (λa=>okN 3 a.1/\okL (okN 16777215) a.2):=by
  rintro ⟨p,j⟩ k ⟨f,d⟩;unfold lsG ptLs;simp only[Az7];rw[cL dE p _ f];simp only;rw[pC pQ _ _ d]
 rw[pC m _ _ ⟨by rw[Ax4];omega,λl g=>by
  obtain⟨a,i,rfl⟩:=Au.1 g;exact⟨(d a i).k,(d a i).a⟩⟩]
 simp only;have h:=fp (W:=c+1) (LL:=b.map (λ(a:LsD)=>yU c a.2.2)) k H (by rw[Ax4];omega) (by have:=dQ d;rw[show ((c+1:Nat):Int)=(c:Int)+1 by omega];exact this) (by
  rw[Ax4];have:(b.length:Int) * ((c+1:Nat):Int)=((b.length * (c+1):Nat):Int):=sI
  rw[this];have:=Nat.mul_le_mul f (show c+1<=65 by omega);omega)
 rw[show ((c+1:Nat):Int)=(c:Int)+1 by omega]at h;rw[h];simp only;rw[if_pos ⟨trivial,sI⟩];have n:∀(b:List LsD),(∀a∈b,OkLs c a)->List.zipWith (λ(a:Int×List Int) j=>(a.1,a.2,qY j)) (b.map (λa=>(a.1,a.2.1))) (b.map (λa=>yU c a.2.2))=b:=by
  intro b
  induction b with
  | nil=>intro _;rfl
  | cons a b o =>
   intro e;simp only[List.map_cons,List.zipWith_cons_cons];rw[o (λl g=>e l (by simp[g])),(fC (e a sI).r (e a sI).t).2.2]
 rw[n b d]
theorem qw:Only lsG ptLs:=by
 intro e h g b c;obtain⟨f,a,d⟩:=py c;rw[bd _ _ _ b a,ad ae _ _ _ (bd.byte b a) d];simp only[ptLs,Az7]
theorem Bp (g:Nat):Only (fW g) (uA g):=by
 intro w u y l o;obtain⟨b,x,a,j,p,k,rfl⟩:=pv o;have r:=(ad qw).byte l j;obtain⟨n,-,-,-,-,f⟩:=ig r p;have s:∀(b:List (Int×List Int)) (a:List (List Int)),a.length=b.length->(List.zipWith (λc d=>((c.1,c.2,qY d):LsD)) b a).map (λc=>(c.1,c.2.1))=b:=by
  intro b
  induction b with
  | nil=>intro a _;rfl
  | cons c b h =>
   intro a e;cases a with
   | nil=>simp at e
   | cons d a=>simp only[List.zipWith_cons_cons,List.map_cons];rw[h a (by simpa using e)]
 have t:∀(b:List (Int×List Int)) (a:List (List Int)),a.length=b.length->(∀d∈a,(d.length:Int)=(g:Int)+1/\∀i∈d,kE i)->(List.zipWith (λc d=>((c.1,c.2,qY d):LsD)) b a).map (λc=>yU g c.2.2)=a:=by
  intro b
  induction b with
  | nil=>intro a e _;cases a with
   | nil=>rfl
   | cons d a=>simp at e
  | cons c b h =>
   intro a e f;cases a with
   | nil=>simp at e
   | cons d a =>
    simp only[List.zipWith_cons_cons,List.map_cons];obtain⟨v,m⟩:=f d sI;rw[h a (by simpa using e) (λi q=>f i (by simp[q])),Bn H m]
 rw[ad qw _ _ _ l j,n];unfold uA;rw[s _ _ k,t _ _ k f,Az7]
def Bq (x:Str×Bool):Prop:=dc x.1
theorem Br:Back tokG sC Bq:=by
 rintro ⟨s,b⟩ r h;unfold tokG sC;simp only[Az7];rw[qd s _ h];simp only;cases b
 .have:=cL (m:=1) dE 0 r ⟨H,H⟩
  simp only[Bool.false_eq_true,if_false];rw[this]
  rfl
 have:=cL (m:=1) dE 1 r ⟨H,H⟩
 simp only[if_true];rw[this]
 rfl
theorem qx:Only tokG sC:=by
 intro i h m d e;obtain⟨j,l,a,c,g⟩:=px e;rw[fo _ _ _ d a,bd _ _ _ (fo.byte d a) c];unfold sC;obtain⟨b,rfl,k⟩:=fj c;have:(if h.2 then (1:Int) else 0)=(b:Int):=by
  rw[g];by_cases a:b=1
  .subst a;rfl
  have f:b=0:=H
  subst f;rfl
 rw[this,Az7]
structure OkTabs (t:TabsD):Prop where
 rl:okL dc t.rl
 dl:t.tk.length=t.dr.length
 tk:t.tk.length<=64/\∀s∈t.tk,dc s
 lx:OkLex t.lx
 nt:OkNet t.nt
 ll:t.lk.length=t.nt.d.length
 lk:∀A∈t.lk,A.length<=4096/\∀s∈A,OkLs t.tk.length s
theorem Bs:Back ai jW OkTabs:=by
 rintro a k ⟨d,b,c,e,f,g,h⟩;unfold ai jW;simp only[Az7];rw[pC qd _ _ d];simp only;rw[pC Br (a.tk.zip a.dr) _ ⟨by rw[Au5];omega,λl i=>c.2 _ (List.of_mem_zip i).1⟩];simp only;rw[Bi _ _ e];simp only;rw[Bk _ _ f];simp only;have j:(a.tk.zip a.dr).length=a.tk.length:=by rw[Au5];omega
 rw[j,<-g,fl (Bo a.tk.length c.1) a.lk [] k h,ec _ _ b,ed _ _ b]
 rfl
theorem Bt {b:TabsD}(g:∀a∈X,Byte a) (m:ai X=some (b,Y)):X=jW b++Y/\vC b.lx.c<=65536:=by
 obtain⟨w,u,x,l,y,d,e,n,f,o,p,q⟩:=pw m;have i:=(ad fo).byte g d;have j:=(ad qx).byte i e;obtain⟨c,v⟩:=Bj j n;have k:∀a∈l,Byte a:=λa r=>j a (by rw[c];exact List.mem_append_right _ r)
 have t:=qq.byte k f;obtain⟨M,h,z,s⟩:=fm (Bp u.length) _ _ _ _ _ t o;rw[Av]at h;refine⟨?_,v⟩;rw[ad fo _ _ _ g d,ad qx _ _ _ i e,c,qq _ _ _ k f,s];unfold jW;rw[p,q,ij,h,Ax4];simp only[Az7]
theorem qy {a:TabsD}(b:OkTabs a) (c:yE a=true):sS (uG a)=some a:=by
 unfold sS uG;have:=Bs a [] b;rw[Av3]at this;rw[show (tQ++jW a).take 4=tQ from D,if_pos D,show (tQ++jW a).drop 4=jW a from D,this];simp only;rw[if_pos ⟨trivial,c⟩]
theorem ik {b:TabsD}(f:∀c∈X,Byte c) (a:sS X=some b):X=uG b/\yE b=true/\vC b.lx.c<=65536:=by
 unfold sS at a
 split at a
 .rename_i h
  split at a
  .cases a
  rename_i m l g
  split at a
  .rename_i j
   injection a with a;subst a;obtain⟨rfl,i⟩:=j;obtain⟨d,k⟩:=Bt (λc e=>f c (List.mem_of_mem_drop e)) g;refine⟨?_,i,k⟩;rw[Av3]at d;rw[<-List.take_append_drop 4 X,h,d]
   rfl
  cases a
 cases a
theorem Bu {b:TabsD}(a:sS X=some b):FairTabs b:=by
 unfold sS at a
 split at a
 .split at a
  .cases a
  rename_i e d c
  split at a
  .injection a with a
   subst a;exact qc c
  cases a
 cases a
structure SmallT (t:TabsD):Prop where
 r:t.lx.r.length<=65536
 st:∀s∈t.nt.st,s.2.1.length<=65536/\s.2.2.length<=65536/\∀e∈s.2.1,0<=e.1
 q:t.nt.q.length<=65536
 al:∀A∈t.lk,∀s∈A,s.2.1.length<=65536
theorem ee {d:Type}{c:d->Bool}{b:List d}(e:b.any (λa=>!c a)=false):∀a∈b,c a=true:=by
 intro a f;have:=Aw4.1 e a f;simpa using this
theorem dA:∀(d:List Int) (e f:Int),vG d e f=true->∀b∈d,e<=b/\b<f
 | [],_,_,_,b,a=>by cases a
 | h :: d,e,f,c,b,a=>by
  simp only[vG]at c
  split at c
  .cases c
  rename_i g
  rcases Ax5.1 a with rfl|a
  .omega
  have:=dA d _ _ c b a
  omega
structure MayP (t:TabsD):Prop where
 rl1:1<=t.rl.length
 rl:t.rl.length<=64
 tk:t.tk.length<=64
 dr:t.dr.length=t.tk.length
 rn:∀s∈t.rl,qE s=true
 tn:∀s∈t.tk,qE s=true
 lx:pG t.lx t.tk.length=true
 nt:sY t.nt=true
 sl:t.nt.s.length=t.rl.length
 st:t.nt.st.length<=65536
 ll:t.lk.length=t.nt.d.length
 lk:fU t=true
 tb:∀s∈t.nt.st,s.2.1.any (qJ t.tk.length)=false
theorem qQ {b:TabsD}(a:yE b=true):MayP b:=by
 unfold yE at a;simp only[Ay6,decide_eq_true_eq,Aw2]at a;obtain⟨⟨⟨⟨⟨⟨⟨⟨⟨⟨⟨⟨c,h⟩,i⟩,j⟩,k⟩,l⟩,m⟩,n⟩,o⟩,d⟩,e⟩,f⟩,g⟩:=a;refine⟨c,h,i,j,ee k,ee l,m,n,o,d,e,f,λq p=>?_⟩;have:=Aw4.1 g q p;simpa using this
structure LexP (t:LexD) (tk:Nat):Prop where
 m:MayS t
 nl:t.n.length<=65536
 pr:(t.n.length:Int) * vC t.c<=4194304
 rs:∀r∈t.r,0<=r.1/\r.2<=1114111/\r.1<=r.2
 eb:∀e∈t.e,-1<=e/\e<tk
theorem uS {f:LexD}(d:pG f a=true):LexP f a:=by
 unfold pG at d;simp only[Ay6,decide_eq_true_eq,Aw2]at d;obtain⟨⟨⟨⟨l,m⟩,n⟩,o⟩,s⟩:=d;have e:=dL.1 l;refine⟨e,m,n,λr k=>?_,λb c=>⟨e.eb b c,?_⟩⟩
 .have:=Aw4.1 o r k
  simp only[qC,At3,decide_eq_true_eq,not_or]at this;obtain⟨q,j,rfl⟩:=List.mem_iff_getElem.1 k;have g:=e.ap;unfold fN at g;have h:=Aw0.1 g q (At1.2 j);simp only[apOk,Ay6,decide_eq_true_eq]at h;have i:=h.1;rw[Aw5,Az4 j,Option.getD_some]at i;exact⟨H,H,i⟩
 have p:f.e≠[]:=by intro b;rw[b]at c;cases c
 have:=(fh p).2 b c;omega
theorem qz {b:LexD}(e:pG b a=true):uQ (vC b.c) b.n=true:=by
 obtain⟨g,k,l,m,n⟩:=uS e;unfold uQ;rw[Aw0];intro i f;obtain⟨c,d⟩:=g.row i f;simp only[nE,Ay6,decide_eq_true_eq,Aw2];refine⟨?_,c⟩;unfold tN;rw[Aw4];intro j h;have:=d j h;simp only[valB,Aw2,decide_eq_false_iff_not,Classical.not_not];exact⟨this.1,H⟩
theorem Bv {c:LexD}(d:pG c a=true) (s:a<=64) (l:c.r.length<=16777215) (m:vC c.c<=65536):OkLex c:=by
 obtain⟨b,g,h,i,j⟩:=uS d;refine⟨b.cl,b.el,l,λt e=>?_,m,g,?_,h,λf k=>?_⟩
 .obtain⟨n,o,p⟩:=i _ (List.of_mem_zip e).1
  obtain⟨q,r⟩:=b.cb _ (List.of_mem_zip e).2;have:=b.cl;exact⟨⟨H,H⟩,⟨H,H⟩,⟨H,H⟩⟩
 .exact qz d
 have:=j f k
 exact⟨this.1,H⟩
structure NetP (n:NetD):Prop where
 sp:n.s.length=n.p.length
 sb:∀i∈n.s,0<=i/\i<n.st.length
 pb:∀i∈n.p,0<=i/\i<n.st.length
 qb:∀i∈n.q,0<=i/\i<n.st.length
 st:∀s∈n.st,gJ n.st.length n.s.length n.q.length s=true/\0<=s.1/\s.1<n.s.length
 d:vA n.st=n.d
theorem il {d:NetD}(e:sY d=true):NetP d:=by
 unfold sY at e;simp only[Ay6,decide_eq_true_eq,Aw2]at e;obtain⟨⟨⟨⟨g,h⟩,i⟩,j⟩,k⟩:=e;have f:=ee h;have c:∀a,xW d.st.length a=true->0<=a/\a<d.st.length:=λa b=>by
  simpa [xW] using b
 refine⟨g,λa b=>c a (f a (by simp[b])),λa b=>c a (f a (by simp[b])),λa b=>?_,λl c=>?_,k⟩
 .have:=Aw4.1 i a b
  simp only[pJ,At3,decide_eq_true_eq,not_or]at this;exact⟨H,H⟩
 have:=Aw0.1 j l c
 simp only[stOk,Ay6,decide_eq_true_eq]at this;exact⟨this.1.1,this.1.2,this.2⟩
structure StP (ns nst np:Nat) (s:StD):Prop where
 e:∀e∈s.2.1,e.1<=3/\0<=e.2.1/\(e.1=1\/e.2.1<ax nst np e.1)/\0<=e.2.2/\e.2.2<ns
 d:s.2.2.length=0\/(s.2.2.length=s.2.1.length/\∀i∈s.2.2,0<=i/\i<ns)
theorem rh {h:StD}(e:gJ a b c h=true):StP a b c h:=by
 unfold gJ at e;simp only[Ay6,At3,decide_eq_true_eq,Aw2]at e;obtain⟨j,d⟩:=e;refine⟨λf l=>?_,?_⟩
 .have:=Aw4.1 j f l
  simp only[vL,xW,At3,Ay6,decide_eq_true_eq,Aw2,Bool.and_eq_false_iff,decide_eq_false_iff_not,not_or,not_and]at this;obtain⟨⟨⟨o,p⟩,i⟩,q⟩:=this;refine⟨H,H,?_,H,H⟩;by_cases g:f.1=1
  .exact .inl g
  have:=i g
  exact .inr H
 rcases d with d|⟨⟨⟨d,-⟩,-⟩,k⟩
 .exact .inl d
 exact .inr ⟨d,λn m=>by
  have:=ee k n m;simpa [xW] using this⟩
theorem Bw {h:TabsD}(e:MayP h) (z:∀d∈h.nt.st,d.2.1.length<=16777215/\d.2.2.length<=16777215/\∀g∈d.2.1,0<=g.1) (y:h.nt.q.length<=16777215):OkNet h.nt:=by
 obtain⟨N,t,u,v,w,x⟩:=il e.nt;have A:=e.st;have B:=e.sl;have C:=e.rl;have E:=e.tk;refine⟨⟨H,λd j=>?_⟩,⟨H,λc a=>?_⟩,⟨H,λc a=>?_⟩,⟨y,λc a=>?_⟩,x⟩
 .obtain⟨k,l,F⟩:=w d j
  obtain⟨m,f⟩:=rh k;obtain⟨n,o,p⟩:=z d j;refine⟨⟨l,H⟩,⟨n,λg i=>?_⟩,⟨o,λc a=>?_⟩⟩
  .obtain⟨K,q,b,r,L⟩:=m g i
   have s:=p g i;refine⟨⟨s,H⟩,⟨q,?_⟩,⟨r,H⟩⟩;rcases b with b|b
   .have:=Aw4.1 (e.tb d j) g i
    simp only[qJ,b,decide_true,Au1,decide_eq_true_eq]at this;omega
   unfold ax at b
   split at b
   .omega
   split at b <;> omega
  rcases f with f|⟨-,f⟩
  .rw[Av1.1 f]at a;cases a
  have:=f c a
  exact⟨this.1,H⟩
 .have:=t c a
  exact⟨this.1,H⟩
 .have:=u c a
  exact⟨this.1,H⟩
 have:=v c a
 exact⟨this.1,H⟩
theorem ri {a:List LsD}(b:xY a x y=true):1<=a.length/\a.length<=4096/\∀c∈a,qG a.length x y c=true:=by
 unfold xY at b;simp only[Ay6,decide_eq_true_eq,Aw2]at b;exact⟨b.1.1,b.1.2,ee b.2⟩
theorem rj (c:bc x a b=true):0<=x/\x<=3:=by
 unfold bc at c
 split at c
 .omega
 split at c
 .omega
 split at c
 .omega
 simp only[Ay6,decide_eq_true_eq]at c;omega
theorem rk {a:TabsD}(b:MayP a) {d:List LsD}(h:d∈a.lk):∃o∈a.nt.st,xY d (o.2.2.length:Nat) a.tk.length=true:=by
 obtain⟨c,e,rfl⟩:=List.mem_iff_getElem.1 h;have g:=b.lk;unfold fU at g;have f:c<a.nt.d.length:=by rw[<-b.ll];exact e
 have:=Aw0.1 g c (At1.2 f);rw[Aw5,Az4 e,Option.getD_some]at this;have i:=(il b.nt).d;have m:a.nt.d.getD c 0∈yN 0 a.nt.st:=by
  rw[show yN 0 a.nt.st=a.nt.d from i];exact ux f
 obtain⟨n,j,k⟩:=jJ _ _ _ m;rw[j]at this;simp only[Ax,Ay5]at this;rw[Aw5 (l:=a.nt.st),Az4 k,Option.getD_some]at this;exact⟨a.nt.st[n],List.getElem_mem _,this⟩
theorem Bx {c:TabsD}(k:MayP c) (r:∀a∈c.nt.st,a.2.2.length<=16777215) {b:List LsD}(n:b∈c.lk) (o:∀a∈b,a.2.1.length<=16777215):b.length<=4096/\∀a∈b,OkLs c.tk.length a:=by
 obtain⟨u,s,q⟩:=rk k n;have w:=r u s;obtain⟨-,l,m⟩:=ri q;refine⟨l,λa e=>?_⟩;have d:=m a e;unfold qG at d;simp only[Ay6,Aw2]at d;obtain⟨⟨⟨g,h⟩,i⟩,j⟩:=d;refine⟨rj j,⟨o a e,λv t=>?_⟩,i,λf p=>?_⟩
 .have:=dA _ _ _ h v t
  exact⟨this.1,H⟩
 have:=Aw4.1 g f p
 simp only[aL,At3,decide_eq_true_eq,not_or]at this;exact⟨H,H⟩
theorem im {d:TabsD}(l:yE d=true) (b:SmallT d):OkTabs d:=by
 have c:=qQ l;have h:=uS c.lx;have q:=b.r;have p:=h.m.cl;have n:vC d.lx.c<=65536:=by
  have:=cE (C:=d.lx.c) (m:=d.lx.c.length) H (λj k=>(h.m.cb j k).2);omega
 have g:∀a,qE a=true->dc a:=λa b=>by
  unfold qE at b;simp only[Ay6,decide_eq_true_eq]at b;exact b.2
 have o:=c.rl;refine⟨⟨H,λa b=>g a (c.rn a b)⟩,c.dr.symm,⟨c.tk,λa b=>g a (c.tn a b)⟩,Bv c.lx c.tk H n,Bw c (λa e=>?_) (by have:=b.q;omega),c.ll,λi f=>Bx c (λa e=>?_) f (λa e=>?_)⟩
 .have:=b.st a e
  exact⟨H,H,this.2.2⟩
 .have:=(b.st a e).2.1;omega
 have:=b.al i f a e;omega
theorem Elt.InS.oks {c:Type}{a:Elt c}{f:Sl}{b:List c}(d:a.InS w S f b):∀g∈b,a.ok g:=by
 obtain⟨-,-,h,i,e,-⟩:=d;exact e.ok
theorem NetIn.kinds {m:NetS}{d:NetD}(f:NetIn w S m d):∀e∈d.st,∀a∈e.2.1,0<=a.1/\a.1<=255:=by
 intro e k a h;obtain⟨c,-,n,g⟩:=f.st;obtain⟨b,i,rfl⟩:=List.mem_iff_getElem.1 k;have l:c[b]?=some c[b]:=Az4 H;have j:=g b _ _ l (Az4 i);exact (j.2.2.1.oks a h).1
theorem rm {i:TabsD}(e:MayP i) (k:FairN i.nt) (w:∀f∈i.nt.st,∀d∈f.2.1,0<=d.1/\d.1<=255):OkNt i.nt:=by
 obtain⟨K,s,t,u,v,L⟩:=il e.nt;have x:=e.st;have y:=e.sl;have z:=e.rl;have A:=e.tk;have B:=k.q;refine⟨⟨H,λf h=>?_⟩,⟨H,λc a=>?_⟩,⟨H,λc a=>?_⟩,⟨H,λc a=>?_⟩⟩
 .obtain⟨l,m,C⟩:=v f h
  obtain⟨n,g⟩:=rh l;obtain⟨o,p⟩:=k.e f h;refine⟨⟨m,H⟩,⟨o,λd j=>?_⟩,p,λc a=>?_⟩
  .obtain⟨E,q,b,r,F⟩:=n d j
   refine⟨w f h d j,⟨q,?_⟩,⟨r,H⟩⟩;rcases b with b|b
   .have:=Aw4.1 (e.tb f h) d j
    simp only[qJ,b,decide_true,Au1,decide_eq_true_eq]at this;omega
   unfold ax at b
   split at b
   .omega
   split at b <;> omega
  rcases g with g|⟨-,g⟩
  .rw[Av1.1 g]at a;cases a
  have:=g c a
  exact⟨this.1,H⟩
 .have:=s c a
  exact⟨this.1,H⟩
 .have:=t c a
  exact⟨this.1,H⟩
 have:=u c a
 exact⟨this.1,H⟩
theorem By {c:LexD}(d:pG c a=true) (u:a<=64) (n:Fair c) (p:vC c.c<=65536):OkLx c:=by
 obtain⟨b,h,i,j,k⟩:=uS d;have g:=n.r;refine⟨b.cl,g,by rw[b.el];omega,λq o=>?_,λe l=>?_,p,h,qz d,i,λf m=>?_⟩
 .obtain⟨r,s,t⟩:=j q o
  exact⟨⟨H,H⟩,⟨H,H⟩⟩
 .have:=b.cb e l
  have:=b.cl;omega
 have:=k f m
 omega
theorem Bz {c:List LsD}(e:∀b∈c,vG (b.2.2.map (·.1)) (-1) a=true/\∀d∈b.2.2,0<=d.2/\d.2<=16777215):uQ ((a:Int)+1) (c.map (λb=>yU a b.2.2))=true:=by
 unfold uQ;rw[Aw0];intro l i;obtain⟨b,f,rfl⟩:=Au.1 i;obtain⟨g,h,-⟩:=fC (e b f).1 (e b f).2;simp only[nE,Ay6,decide_eq_true_eq,Aw2];refine⟨?_,by rw[g];rfl⟩;unfold tN;rw[Aw4];intro k j;have:=h k j;simp only[valB,Aw2,decide_eq_false_iff_not,Classical.not_not];exact this
theorem ip {c:TabsD}(s:MayP c) (m:FairTabs c) {d:List LsD}(k:d∈c.lk):(∀g∈d,OkL c.tk.length g)/\d.length<=4096/\uQ ((c.tk.length:Int)+1) (d.map (λb=>yU c.tk.length b.2.2))=true:=by
 obtain⟨A,y,x⟩:=rk s k;have E:=(m.nt.e A y).2;obtain⟨-,t,u⟩:=ri x;have o:∀b∈d,OkL c.tk.length b/\vG (b.2.2.map (·.1)) (-1) c.tk.length=true/\∀a∈b.2.2,0<=a.2/\a.2<=16777215:=λb f=>by
  have h:=u b f;unfold qG at h;simp only[Ay6,Aw2]at h;obtain⟨⟨⟨p,q⟩,i⟩,r⟩:=h;have l:=(m.la d k).2 b f;have v:=rj r;have e:∀a∈b.2.2,0<=a.2/\a.2<=16777215:=λa e=>by
   have:=Aw4.1 p a e;simp only[aL,At3,decide_eq_true_eq,not_or]at this;exact⟨H,H⟩
  refine⟨⟨⟨v.1,H⟩,⟨l.1,λB z=>?_⟩,l.2,λa n=>?_⟩,i,e⟩
  .have:=dA _ _ _ q B z
   exact⟨this.1,H⟩
  have j:=dA _ _ _ i a.1 (Au.2 ⟨a,n,D⟩)
  have C:=e a n;exact⟨j.1,j.2,⟨H,H⟩⟩
 exact⟨λg w=>(o g w).1,t,Bz (λb f=>(o b f).2)⟩
structure RdSt (pr gb:Nat) (w:World) (Z:List Int) (no:Bool):Prop where
 g:GetSt pr gb w Z
 n:w.cell? ⟨pr,1,none⟩=some (.bool no)
 z:w.frozen? ⟨pr,1,none⟩=false
 s:Z.length<=100000
theorem RdSt.chg {f w':World}(c:RdSt a b f X N) (d:J S f w') (e:¬S a) (g:¬S b):RdSt a b w' X N :=
 ⟨c.g.chg d e g,d.cellS c.n e,(d.frozen (p:=⟨a,1,none⟩) c.g.lt e).trans c.z,c.s⟩
theorem RdSt.fresh (c:RdSt a b w X N) (d:Cf w v):RdSt a b v X N:=c.chg d iD iD
theorem RdSt.fail (c:RdSt a b w X N):RdSt a b (w.setCell ⟨a,1,none⟩ (.bool true)) X true:=by
 have d:=zA w a 1 (.bool true);obtain⟨j,f,g,h,i⟩:=c.g.c;exact⟨⟨⟨j,f,by rw[Ay0 _ _ _ _ (by intro e;injection e with _ e;omega)];exact g,h,i.chg d (λ_=>c.g.ne)⟩,(Az3 _ _ _ _).trans c.g.z,Ay9 c.g.lt d.size,Ay9 c.g.lb d.size,c.g.ne,c.g.len,c.g.byte⟩,
  Az9 _ _ _ c.n,(Az3 _ _ _ _).trans c.z,c.s⟩
theorem RdSt.cut (c:RdSt a b w X N) {f d e:Nat}(h:w.cell? ⟨a,0,none⟩=some (.slice (some ⟨b,f,none⟩) X.length d)) (i:X.length<=d) (j:BytesAt w b f X) (k:e<=X.length) :
  RdSt a b (w.setCell ⟨a,0,none⟩ (cutV b f d X.length e)) (X.drop e) N :=
 ⟨c.g.cut h i j k,by rw[Ay0 _ _ _ _ (by intro g;injection g with _ g;omega)];exact c.n,(Az3 _ _ _ _).trans c.z,by rw[Av0];have:=c.s;omega⟩
def ef {a:Type}(n:a->Value) (j:a->List Int) (m h:a->Prop) (e k:Nat) (o:World) (g:List Int) (l:Bool) (i:Ending) (f:World):Prop :=
 ∃(b:a) (c:List Int) (d:Bool),i=.returned (n b)/\RdSt e k f c d/\J (·=e) o f/\h b/\Dr j m b g l c d
theorem ro (b:U32 x) (a:List Int):rY 0 0 (zJ x++a)=some (x.toNat,(zJ x).length):=by
 unfold zJ;exact gs (by obtain⟨c,d⟩:=b;omega) a
theorem tA (k:World) (c:RdSt a b k X N) :
  Calls prog 57 #[.pointer (some ⟨a,0,none⟩)] k (ef (λy=>.int .i64 y) zJ U32 U32 a b k X N):=by
 obtain⟨w,s,q,t,u⟩:=c.g.c;have n:=V (da X (some ⟨b,w,none⟩) b w s k u (λ_=>rfl) t (by have:=c.g.len;omega));have m:=V c;have O:G (BytesAt k b w X):=V u;have A:G (X.length<=s):=V t;clear t u;cases f:rY 0 0 X with
 | none =>
  have P:G (∀g h,U32 g->X=zJ g++h->False):=V (λg h i j=>by rw[j,ro i]at f;cases f);rw[f]at n;clear f c;go_enter func57,ntmps57
  go_wp2_with fail
  refine n.o.mono ?_;rintro E x ⟨rfl,d⟩;simp only[ca];have e:=V (m.o.fresh d);have l:=V d;have C:=e.o.n;have L:=e.o.z;clear d q;go_wp2;go_ret
  exact⟨0,X,true,D,e.o.fail,l.o.any.trans (zA _ _ _ _),⟨dE,dE⟩,Dr.bad D λg h _ i j=>P.o g h i j⟩
 | some U =>
  obtain⟨K,o⟩:=U;obtain⟨a2,v,a0⟩:=hi f;have B:=V f;rw[f]at n;clear f c;cases N with
  | true =>
   go_enter func57,ntmps57
   go_wp2_with fail
   refine n.o.mono ?_;rintro E x ⟨rfl,d⟩;simp only[ca];have e:=V (m.o.fresh d);have l:=V d;have C:=e.o.n;have L:=e.o.z;clear d q;go_wp2;go_ret
   exact⟨0,X,true,D,e.o.fail,l.o.any.trans (zA _ _ _ _),⟨dE,dE⟩,Dr.bad D λg h c=>by cases c⟩
  | false =>
   have W:=V v;have Z:o<=10000000:=(by have:=m.o.g.len;omega);go_enter func57,ntmps57
   go_wp2_with fail
   refine n.o.mono ?_;rintro E x ⟨rfl,d⟩;simp only[ca];have e:=V (m.o.fresh d);have l:=V d;have Q:=d.cellS q iD;have C:=e.o.n;have L:=e.o.z;have a5:=e.o.g.z;have p:=V (e.o.cut Q A.o (O.o.chg d iE) v);have z:G (∀r,RdSt a b r (X.drop o) false->J (·=a) x r->ef (λy=>.int .i64 y) zJ U32 U32 a b k X false (.returned (.int .i64 (K:Int))) r):=V (λr T S =>
    ⟨K,X.drop o,false,D,T,l.o.any.trans S,⟨H,H⟩,by rw[Av0];omega,λ_=>⟨D,by
     have c:=congrArg List.length (hn m.o.g.byte B.o);rw[Az]at c;unfold zJ;rw[Ay5];omega⟩,λg h _ i j=>by
     have c:=B.o;rw[j,ro i]at c;injection c with c;injection c with Y R;obtain⟨a3,a4⟩:=i;exact⟨H,by rw[j,<-R,List.drop_left],D⟩⟩)
   clear d q v;by_cases F:s=o
   .have a1:X.length-o=0:=by have:=A.o;omega
    rw[cutV,if_pos F]at p;go_wp2;go_ret
    exact z.o _ p.o (zA _ _ _ _)
   rw[cutV,if_neg F]at p
   go_wp2;go_ret
   exact z.o _ p.o (zA _ _ _ _)
theorem rp (t:World) (h:RdSt a b t X N) :
  Calls prog 58 #[.pointer (some ⟨a,0,none⟩)] t (ef (λu=>.string u) xE (λc=>c.size<=1000000) (λc=>c.size<=10000000) a b t X N):=by
 have a0:=V (tA t h);clear h;go_enter func58,ntmps58
 go_wp2_with fail
 refine a0.o.mono ?_;rintro aB W ⟨a8,d,a3,rfl,k,a1,⟨S,a2⟩,P⟩;have j:=V k;have z:=V a1;have o:=V P;have A:G (∀(c:Str) f,N=false->c.size<=1000000->X=xE c++f->a8=c.size/\d=strB c++f/\a3=false):=V (λc f F m n=>by
  obtain⟨r,s,U⟩:=P.b (c.size:Int) (strB c++f) F ⟨H,H⟩ (by rw[n];unfold xE zJ;rw[Ay5,Az7]);exact⟨r,s,U⟩)
 have a9:=k.n;have aK:=k.z;obtain⟨T,x,F,m,n⟩:=k.g.c;have Y:G (BytesAt W b T d):=V n;have B:G (d.length<=x):=V m;have aH:=k.g.len;clear k a1 P m n a0;cases a3 with
 | true =>
  go_wp2;go_ret
  exact⟨⟨#[]⟩,d,true,D,j.o.fail,z.o.trans (zA _ _ _ _),dE,o.o.l,(λh=>by cases h),λc f g p q=>by
   obtain⟨-,-,U⟩:=A.o c f g p q;cases U⟩
 | false =>
  obtain⟨e,rfl⟩:=Ax3 S;by_cases R:d.length<e
  .have C:=rO d.length e
   have E:decide (d.length<e)=true:=decide_eq_true R;go_wp2;go_ret
   exact⟨⟨#[]⟩,d,true,D,j.o.fail,z.o.trans (zA _ _ _ _),dE,o.o.l,(λh=>by cases h),λc f g p q=>by
    obtain⟨r,s,-⟩:=A.o c f g p q;have a5:=congrArg List.length s;rw[Az,rC]at a5;omega⟩
  have C:=rR d.length e
  have E:decide (d.length<e)=false:=decide_eq_false R;have w:G (e<=d.length):=V H;have a4:G (BytesAt W b T (d.take e)):=V ⟨λa7 u Q=>Y.o.c a7 u (by rw[List.getElem?_take_of_lt (by have:=(Az0.1 Q).1;rw[Ay8]at this;omega)]at Q;exact Q),λ_=>j.o.g.lb⟩;have O:=au x a4.o (a:=some ⟨b,T,none⟩) (λ_=>rfl);rw[Ay8,Nat.min_eq_left w.o]at O;have aD:e<=x:=(by have:=B.o;omega);have aI:=j.o.g.z;have v:=V (j.o.cut F B.o Y.o w.o);have Z:G (∀y,RdSt a b y (d.drop e) false->J (·=a) W y->ef (λu=>.string u) xE (λc=>c.size<=1000000) (λc=>c.size<=10000000) a b t X N (.returned (.string (strOfNums (d.take e)))) y):=V (λy k a6 =>
   ⟨strOfNums (d.take e),d.drop e,false,D,k,z.o.trans a6,by show (strOfNums (d.take e)).size<=10000000;rw[<-rC,gm (λg K=>j.o.g.byte g (Av8 K)),Ay8];have:=j.o.g.len;omega,by rw[Av0];have:=o.o.l;omega,λ_=>⟨(o.o.s D).1,by
    have h:=(o.o.s D).2;have m:=gm (λg K=>j.o.g.byte g (Av8 (l:=d) (i:=e) K));have n:(strOfNums (d.take e)).size=e:=(by rw[<-rC,m,Ay8];have:=w.o;omega);unfold zJ at h;rw[Ay5]at h;unfold xE;rw[m,n,Az,Ay8,Av0];have:=w.o;omega⟩,λc f g p q=>by
    obtain⟨r,s,-⟩:=A.o c f g p q;have r:e=c.size:=H;rw[s,r,<-rC c,List.take_left,List.drop_left];exact⟨lc c,D,D⟩⟩)
  clear R;by_cases L:x=e
  .have aF:d.length-e=0:=by have:=B.o;omega
   rw[cutV,if_pos L]at v;subst L;go_upto_region 6 with fail
   clear O C E S a2;go_wp2;go_ret
   exact Z.o _ v.o (zA _ _ _ _)
  rw[cutV,if_neg L]at v
  go_upto_region 6 with fail
  clear O C E S a2;go_wp2;go_ret
  exact Z.o _ v.o (zA _ _ _ _)
theorem tL (z:Int):1<=(zJ z).length:=by unfold zJ;exact cr _
theorem u32c (a:U32 x):intE.ok x:=by obtain⟨b,c⟩:=a;exact⟨H,H⟩
theorem Dr.cnt (a:Dr zJ U32 x X N Y R):Dr zJ (λb=>0<=b/\b<=16777215) x X N Y R:=a.weak λ_ a=>⟨H,H⟩
def iq (f j:Nat) (h:World) (c:List Int) (k:Bool) (i:Ending) (b:World):Prop :=
 ∃(a:List Int) (g:Value) (d:List Int) (e:Bool),i=.returned g/\intE.Own b h.heap.size g a/\(∀l∈a,U32 l)/\a.length<=c.length+1/\RdSt f j b d e/\J (·=f) h b/\Dr (zE zJ) (okL U32) a c k d e
theorem aA (d:World) (f:RdSt a b d X N) :
  Calls prog 60 #[.pointer (some ⟨a,0,none⟩)] d (iq a b d X N):=by
 have P:=V (tA d f);have aX:G (X.length<=100000):=V f.s;have z:G (a<d.heap.size/\b<d.heap.size):=V ⟨f.g.lt,f.g.lb⟩;clear f;go_enter func60,ntmps60
 go_wp2_with fail
 refine P.o.mono ?_;rintro h bM ⟨bI,U,a3,rfl,r,Y,⟨a2,b0⟩,Z⟩;obtain⟨m,rfl⟩:=Ax3 a2;have aK:G (m<4294967296):=V H;obtain⟨T,L,w⟩:=rZ r Y Z;clear r Y Z P a2 b0;go_wp2_with fail
 go_loopw [3,4] (λb4 F wr=>∃(c:List Int) (g:Nat) (i:Option Addr) (j:Nat) (n:List Int) (l:Bool),b4=.slice i c.length j/\F=.int .i64 g/\m=c.length+g/\intE.Own wr d.heap.size (.slice i c.length j) c/\(∀e∈c,U32 e)/\RdSt a b wr n l/\J (·=a) d wr/\DrL zJ U32 m U a3 c n l) (λ_ F _=>(intOf F).toNat)
 .exact⟨[],m,none,0,U,a3,D,D,sI,Elt.Own.nil _ _,sI,T.o,L.o,DrL.start _ _ _⟩
 clear T L;obtain⟨c,g,i,j,n,l,rfl,rfl,W,B,C,t,q,s⟩:=hrel;obtain⟨a4,rfl⟩:∃e:World,e=wr:=⟨_,D⟩;have y:=V W;have aM:=V B;have aT:=V C;have aR:=V t;have aD:=V q;have O:=V s;have a8:=V q.size;have b8:=t.n;have x:G (l=true\/g=0->iq a b d X N (.returned (.slice i c.length j)) a4):=V (λaZ =>
  ⟨c,_,n,l,D,B,C,by have:=s.k;have:=w.o.l;omega,t,q,DrL.list w.o.cnt s (aZ.imp id H)⟩)
 clear W B C t q s;have bF:g<=4294967295:=by have:=y.o;have:=aK.o;omega
 cases g with
 | zero =>
  go_wp2;go_ret
  exact x.o sI
 | succ g =>
  have b9:decide ((0:Int)<((g+1:Nat):Int))=true:=decide_eq_true H;cases l with
  | true =>
   go_wp2;go_ret
   exact x.o sI
  | false =>
   clear x;have Q:=V (tA a4 aR.o);go_wp2_with fail
   refine Q.o.mono ?_;rintro h k ⟨e,aY,b3,rfl,a1,p,E,a0⟩;obtain⟨aF,a9,aV,aH⟩:=sB a1 p E (O.o.step tL (by have:=y.o;omega) a0);have aO:G (intE.Own k d.heap.size (.slice i c.length j) c):=V (aM.o.chg p (λo bB _ h=>by have:=z.o.1;omega));have R:=V (aO.o.chg ((FR k).alloc (.cells #[.int .i64 e] 3)) (λ_ _ _ f=>f));have a7:G (d.heap.size<=(k.alloc (.cells #[.int .i64 e] 3)).heap.size):=V (Ay2 a8.o (Ay2 p.size ((FR k).alloc (.cells #[.int .i64 e] 3)).size));have S:G (∀v∈[e],intE.ok v):=V (by intro v u;rw[Ay]at u;subst u;exact u32c E);have aI:G (c.length+[e].length<=1000000000000):=V (by have:=O.o.k;have:=w.o.l;have:=aX.o;simp only[List.length_singleton];omega);clear a1 p E a0 Q;go_wp2_with (at_builtin;refine Elt.wpList_append2 intE D (.tmp 18) (.tmp 21) 25 25 D D d.heap.size (.slice i c.length j) c [e] (.slice (some ⟨k.heap.size,0,none⟩) 1 1) D D R.o a7.o (intE.srcLit 1 S.o) S.o aI.o ?_;intro bK b7 K a5 a6;obtain⟨b5,b6,b1⟩:=K.o.shape;subst b1)
   have A:∀o,(Value.slice i c.length j).ownBlock=some o->d.heap.size<=o:=λo r=>(R.o.blk r).1
   have aP:=V ((aF.o.fresh ((FR k).alloc (.cells #[.int .i64 e] 3))).chg a6.o.1 (λh=>by have:=A _ h;have:=z.o.1;omega) (λh=>by have:=A _ h;have:=z.o.2;omega));have aB:G (J (·=a) d b7):=V ((aD.o.trans a9.o).trans2 (((J.refl (λb2=>d.heap.size<=b2) k).alloc (.cells #[.int .i64 e] 3)).trans a5.o) (λbH bD h=>H));clear A;go_roundw
   case rel =>
    exact⟨c++[e],g,b5,b6,aY,b3,by rw[Az];rfl,GN,by have:=y.o;rw[Az,List.length_singleton];omega,K.o,λv u=>by
     rcases Aw9.1 u with f|f
     .exact aT.o v f
     rw[Ay]at f;subst f;exact aV.o,aP.o,aB.o,aH.o⟩
   case measure=>simp[intOf]
section
variable {α β δ:Type}{E:Elt β}{R:Rp β δ}{B:Nat}{A:Nat->Prop}{w w':World}{v:Value}{acc:List δ}
theorem Elt.Own.inS {E:Elt α}{d:Option Addr}{c e:Nat}{a:List α}(l:E.Own w B (.slice d c e) a):c=a.length/\E.InS w (B<=·) (d,c,e) a:=by
 obtain⟨m,k,n,b,f,g,h⟩:=l.at';injection b with b i j;subst b i j;exact⟨D,D,f,k,0,g,h⟩
theorem zL.nil (E:Elt β) (R:Rp β δ) (w:World) (a:Nat->Prop):zL E R w a (none,0,0) []:=⟨[],Elt.InS.nil _ _ _,D,λd e c b=>by simp at b⟩
def Gr (E:Elt β) (R:Rp β δ) (B:Nat) (A:Nat->Prop) (w:World) (v:Value) (acc:List δ):Prop :=
 ∃X,E.Own w B v X/\X.length=acc.length/\∀(j:Nat) x d,X[j]?=some x->acc[j]?=some d->R w (λk=>B<=k/\A k/\v.ownBlock≠some k) x d
theorem Gr.nil:Gr E R B A w (.slice none 0 0) []:=⟨[],.nil _ _,D,λc d b a=>by simp at a⟩
theorem Gr.chg (l:Good R) {S:Nat->Prop}(i:Gr E R B A w v acc) (e:J S w w') (f:∀b,B<=b->(A b\/v.ownBlock=some b)->¬S b):Gr E R B A w' v acc:=by
 obtain⟨g,d,j,k⟩:=i;exact⟨g,d.chgB e (λc a=>f c (d.blk a).1 (.inr a)),j,λo p h n m=>l.chg (k o p h n m) e (λc a=>f c a.1 (.inl a.2.1))⟩
theorem Gr.avoid (j:Good R) {A':Nat->Prop}(e:Gr E R B A w v acc) (i:∀a,a<w.heap.size->A a->A' a):Gr E R B A' w v acc:=by
 obtain⟨c,f,g,h⟩:=e;exact⟨c,f,g,λn o d m k=>j.mono (h n o d m k) (λa l b=>⟨b.1,i a l b.2.1,b.2.2⟩)⟩
theorem Gr.shape3 (c:Gr E R B A w v acc):∃a e b,v=.slice a e b:=by
 obtain⟨f,d,-⟩:=c;exact d.shape3
theorem Gr.blk (a:Gr E R B A w v acc) {g:Nat}(c:v.ownBlock=some g):B<=g/\g<w.heap.size:=by
 obtain⟨d,b,-⟩:=a;exact b.blk c
theorem Gr.step (h:Good R) {s:Nat->Prop}{g:List β}{k r:World}{l:Value}{y:β}{d:δ}(K:E.Own w B v g) (L:g.length=acc.length) (N:∀(j:Nat) m d,g[j]?=some m->acc[j]?=some d->R w (λa=>B<=a/\A a/\v.ownBlock≠some a) m d) (U:B<=w.heap.size)
  (t:J s w k) (e:∀a,B<=a->A a->¬s a) (S:R k (λa=>w.heap.size<=a/\A a) y d) (P:E.Own r B l (g++[y])) (u:J (λa=>v.ownBlock=some a) k r) (Q:l.ownBlock=v.ownBlock\/∃o,l.ownBlock=some o/\k.heap.size<=o):Gr E R B A r l (acc++[d]):=by
 have z:∀a,v.ownBlock=some a->a<w.heap.size:=λa b=>(K.blk b).2
 have X:=t.size;have C:∀a,a<k.heap.size->l.ownBlock=some a->v.ownBlock=some a:=λa b c=>by
  rcases Q with n|⟨o,n,W⟩
  .rw[<-n];exact c
  rw[n]at c;injection c with c;omega
 refine⟨g++[y],P,by simp[L],λj m F f i=>?_⟩;rw[List.getElem?_append]at f i;by_cases x:j<g.length
 .rw[if_pos x]at f
  rw[if_pos H]at i;have p:=h.mono (N j m F f i) (S':=λa=>B<=a/\A a/\v.ownBlock≠some a/\a<w.heap.size) (λa b e=>⟨e.1,e.2.1,e.2.2,b⟩);have q:=h.chg p t (λa b=>e a b.1 b.2.1);have T:=h.chg q u (λa b c=>b.2.2.1 c);exact h.mono T (λa _ b=>⟨b.1,b.2.1,λc=>b.2.2.1 (C a H c)⟩)
 rw[if_neg x]at f
 rw[if_neg H]at i;have O:j-g.length=0:=by
  have:=(Az0.1 f).1;simp at this;omega
 rw[O]at f;rw[show j-acc.length=0 by omega]at i;simp at f i
 subst f i;have p:=h.mono S (S':=λa=>w.heap.size<=a/\A a/\a<k.heap.size) (λa b e=>⟨e.1,e.2,b⟩);have q:=h.chg p u (λa b c=>by have:=z a c;omega);exact h.mono q (λa _ b=>⟨H,b.2.1,λc=>by have:=z a (C a b.2.2 c);omega⟩)
theorem Gr.list (j:Good R) {b:Option Addr}{a c:Nat}(f:Gr E R B A w (.slice b a c) acc):a=acc.length/\zL E R w (B<=·) (b,a,c) acc:=by
 obtain⟨d,g,h,i⟩:=f;obtain⟨q,l⟩:=g.inS;exact⟨H,d,l,h,λo p e n k=>j.mono (i o p e n k) (λr _ m=>m.1)⟩
end
end Go.Proofs.YtgnpmceimpjheaaGreat
namespace Go.Proofs.YtgnpmceimpjheaaGreat
structure Tally (A T L:List Int):Prop where
 len:T.length=A.length
 nodup:A.Nodup
 mem:∀n,n∈A↔n∈L
 cnt:∀(k:Nat) a t,A[k]?=some a->T[k]?=some t->t=L.count a
 le:A.length<=L.length
theorem Tally.start:Tally [] [] []:=⟨D,List.nodup_nil,λ_=>Iff.rfl,λk a t h=>by simp at h,Ay1 _⟩
theorem Tally.old {h i l:List Int}(a:Tally h i l) {f:Nat}{g n:Int}(d:h[f]?=some g) (m:i[f]?=some n):Tally h (i.set f (n+1)) (l++[g]):=by
 have r:=(Az0.1 m).1;refine⟨by rw[Av9];exact a.len,a.nodup,λu=>?_,λk o v c e=>?_,by simp;have:=a.le;omega⟩
 .have s:=(a.mem g).1 (Az1 d)
  rw[a.mem]
  constructor
  .intro b;simp[b]
  intro b
  rcases Aw9.1 b with b|b
  .exact b
  rw[Ay.1 b];exact s
 by_cases j:k=f
 .subst j
  rw[d]at c;obtain rfl:=Az2 c;rw[Aw7 r]at e;obtain rfl:=Az2 e;rw[a.cnt k _ _ d m,List.count_append];simp
 rw[Av5 (Ne.symm j)]at e
 rw[a.cnt k _ _ c e,List.count_append];have t:o≠g:=by
  intro p;subst p;have q:=(Az0.1 c).1;exact j (((List.getElem?_inj q a.nodup).1 (by rw[c,d])))
 simp[Ne.symm t]
theorem Tally.new {g d h:List Int}(b:Tally g d h) {c:Int}(i:c ∉ g):Tally (g++[c]) ((d++[0]).set d.length 1) (h++[c]):=by
 have q:c ∉ h:=λe=>i ((b.mem c).2 e)
 refine⟨by simp[b.len],?_,λs=>?_,λj k t a f=>?_,by simp;exact b.le⟩
 .rw[List.nodup_append]
  refine⟨b.nodup,sI,λk a r l=>?_⟩;rw[Ay]at l;subst l;intro e;subst e;exact i a
 .simp[b.mem]
 have o:=b.len
 by_cases m:j<d.length
 .rw[Av5 H,Ax0 m]at f
  rw[Ax0 H]at a;have p:k≠c:=λe=>i (by rw[<-e];exact Az1 a)
  rw[b.cnt j _ _ a f,List.count_append];simp[Ne.symm p]
 have n:=(Az0.1 a).1
 simp only[Az,List.length_singleton]at n;obtain rfl:j=d.length:=H;rw[Aw7 sI]at f;obtain rfl:=Az2 f;rw[o,Ax7 (Ay1 _),Au4]at a;obtain rfl:=Az2 a;rw[List.count_append,List.count_eq_zero.2 q];simp
def bh (A L:List Int) (k:Nat) (b t:Int):Prop :=
 ((b=-1/\t=0/\k=0)\/(b∈L/\t=L.count b))/\∀(j:Nat) (x:Int),j<k->A[j]?=some x->(L.count x:Int)<t\/((L.count x:Int)=t/\b<=x)
theorem bh.start (A L:List Int):bh A L 0 (-1) 0:=⟨.inl ⟨D,D,D⟩,λ_ _ h=>absurd h (Ax1 _)⟩
theorem bh.next {h a:List Int}{e:Nat}{f c x:Int}(q:bh h a e f c) (o:h[e]?=some x) (p:x∈a) (i l:Int) (g:(i=x/\l=a.count x/\(c<a.count x\/((a.count x:Int)=c/\x<f)))\/(i=f/\l=c/\((a.count x:Int)<c\/((a.count x:Int)=c/\f<=x)))):bh h a (e+1) i l:=by
 obtain⟨j,n⟩:=q;have s:0<a.count x:=List.count_pos_iff.2 p;rcases g with ⟨rfl,rfl,g⟩|⟨rfl,rfl,g⟩
 .refine⟨.inr ⟨p,D⟩,λd m r b=>?_⟩
  by_cases k:d=e
  .subst k;rw[o]at b;obtain rfl:=Az2 b;omega
  have:=n d m H b;omega
 refine⟨.inr ?_,λd m r b=>?_⟩
 .rcases j with ⟨rfl,rfl,rfl⟩|j
  .omega
  exact j
 by_cases k:d=e
 .subst k;rw[o]at b;obtain rfl:=Az2 b;exact g
 exact n d m H b
theorem bh.done {d j a:List Int}{h p:Int}(k:bh d a d.length h p) (m:Tally d j a):h=xL a:=by
 refine bv.unique (L:=a) ?_ (pY a);obtain⟨f,l⟩:=k;have i:∀c∈a,∃b,d[b]?=some c/\b<d.length:=λc g=>by
  obtain⟨b,e,n⟩:=Au2 ((m.mem c).2 g);exact⟨b,by rw[Az4 e,n],e⟩
 rcases f with ⟨rfl,rfl,r⟩|⟨f,rfl⟩
 .refine .inl ⟨?_,D⟩
  cases a with
  | nil=>rfl
  | cons q a =>
   obtain⟨b,_,e⟩:=i q sI;omega
 refine .inr ⟨f,λc g=>?_⟩
 obtain⟨b,e,o⟩:=i c g;have:=l b c o e;omega
end Go.Proofs.YtgnpmceimpjheaaGreat
namespace Go.Proofs.YtgnpmceimpjheaaGreat
open Go.RowKit Go.Proofs.Tryz
variable {a b c d e f g h i j k l m n o p q r:Nat}{w v u t s:World}{X Y W L T:List Int}{A B C E Z:Value}{x y z:Int}{N R:Bool}{F Q:Option Addr}{S P:Nat->Prop}
structure TwoL (B:Nat) (w:World) (v u:Value) (A T:List Int):Prop where
 a:intE.Own w B v A
 t:intE.Own w B u T
 apart:∀g,v.ownBlock=some g->u.ownBlock≠some g
theorem TwoL.chg {S:Nat->Prop}{d w':World}(c:TwoL a d A B X Y) (e:J S d w') (f:∀b,a<=b->b<d.heap.size->¬S b):TwoL a w' A B X Y :=
 ⟨c.a.chg e f,c.t.chg e f,c.apart⟩
theorem TwoL.appA (d:TwoL a w A C X W) (h:intE.Own v a B Y) (i:J (λj=>A.ownBlock=some j) w v) (c:B.ownBlock=A.ownBlock\/B.ownBlock=some w.heap.size):TwoL a v B C Y W :=
 ⟨h,d.t.chgB i (λe b g=>d.apart e g b),λe b f=>by
  rcases c with c|c
  .rw[c]at b;exact d.apart e b f
  rw[c]at b
  obtain rfl:=Az2 b;have:=(d.t.blk f).2;omega⟩
theorem TwoL.appT (c:TwoL a w A B X Y) (i:intE.Own v a C W) (h:J (λj=>B.ownBlock=some j) w v) (b:C.ownBlock=B.ownBlock\/C.ownBlock=some w.heap.size):TwoL a v A C X W :=
 ⟨c.a.chgB h (λf d g=>c.apart f d g),i,λf d e=>by
  rcases b with b|b
  .rw[b]at e;exact c.apart f d e
  rw[b]at e
  obtain rfl:=Az2 e;have:=(c.a.blk d).2;omega⟩
theorem TwoL.set (e:TwoL a w A (.slice (some ⟨b,0,none⟩) c d) X Y) {k:Nat}(i:k<Y.length) {x:Int}(j:I.Byte x):TwoL a (w.setCell ⟨b,k,none⟩ (.int .i64 x)) A (.slice (some ⟨b,0,none⟩) c d) X (Y.set k x) :=
 ⟨e.a.chgB (zA _ _ _ _) (λg h f=>e.apart g h (by rw[f];rfl)),gk e.t i j,e.apart⟩
structure VarSt (wo:World) (b:Nat) (w:World) (v0 v1:Value):Prop where
 hb:b=wo.heap.size
 c0:w.cell? ⟨b,0,none⟩=some v0
 c1:w.cell? ⟨b,1,none⟩=some v1
 z0:w.frozen? ⟨b,0,none⟩=false
 z1:w.frozen? ⟨b,1,none⟩=false
 lt:b<w.heap.size
 chg:Cf wo w
theorem VarSt.start (a:World) (b c:Value) (d:TypeId):VarSt a a.heap.size (a.alloc (.cells #[b,c] d)) b c :=
 ⟨D,by rw[Az5];rfl,by rw[Az5];rfl,Az6 _ _ _ _,Az6 _ _ _ _,sI,rT⟩
theorem VarSt.drew (b:VarSt w a v A B):VarSt w a v.drew A B:=⟨b.hb,b.c0,b.c1,b.z0,b.z1,b.lt,b.chg.drew⟩
theorem VarSt.step (b:VarSt w a v A B) (d:Value):VarSt w a (v.setCell ⟨a,0,none⟩ d) d B :=
 ⟨b.hb,Az9 _ _ _ b.c0,by rw[Ay0 _ _ _ _ (by intro c;injection c with _ c;cases c)];exact b.c1,(Az3 _ _ _ _).trans b.z0,(Az3 _ _ _ _).trans b.z1,Ay9 b.lt (zA _ _ _ _).size,(b.chg.any.trans ((zA v a 0 d).mono (T:=λe=>w.heap.size<=e) (λe _ c=>by rw[c,b.hb];exact Ay1 _))).fresh⟩
theorem Ca (b:List Int) (b7:Option Addr) (a4 e5 f8:Nat) (c:World) (P:I.BytesAt c a4 e5 b) (dM:0<b.length->b7=some ⟨a4,e5,none⟩) (hB:b.length<=65536) (e0:tN b=false) :
  Calls prog 163 #[.slice b7 b.length f8] c λx i=>∃e8,x=.returned (ofV (xL b) e8 0)/\uW.In i c.heap.size e8 (zN (xL b) 0 b)/\Cf c i:=by
 obtain⟨b5,cS,d9,cV⟩:=sB P dM (nC.1 e0) ((J.refl (λa=>c.heap.size<=a) c).alloc (.cells #[.int .i64 0,.slice none 0 0] 236));have eR:G (∀wr,J (λa=>c.heap.size+1<=a) (c.alloc (.cells #[.int .i64 0,.slice none 0 0] 236)) wr->wr.cell? ⟨c.heap.size,0,none⟩=some (.int .i64 0)/\wr.cell? ⟨c.heap.size,1,none⟩=some (.slice none 0 0)/\wr.frozen? ⟨c.heap.size,0,none⟩=false/\wr.frozen? ⟨c.heap.size,1,none⟩=false):=V λwr L =>
  ⟨L.cellS sI (by show ¬c.heap.size+1<=c.heap.size;omega),L.cellS sI (by show ¬c.heap.size+1<=c.heap.size;omega),(L.frozen (p:=⟨c.heap.size,0,none⟩) sI (by show ¬c.heap.size+1<=c.heap.size;omega)).trans (Az6 _ _ _ _),(L.frozen (p:=⟨c.heap.size,1,none⟩) sI (by show ¬c.heap.size+1<=c.heap.size;omega)).trans (Az6 _ _ _ _)⟩
 clear P dM e0;go_enter func163,ntmps163
 go_wp2
 go_loopw [4,5,6] (λaV gF u wr=>∃(m:Nat) (j n:List Int),m<=b.length/\u=.int .i64 m/\TwoL (c.heap.size+1) wr aV gF j n/\Tally j n (b.take m)/\J (λa=>c.heap.size+1<=a) (c.alloc (.cells #[.int .i64 0,.slice none 0 0] 236)) wr) (λ_ _ u _=>b.length-(intOf u).toNat)
 .exact⟨0,[],[],H,D,⟨.nil _ _,.nil _ _,λa4 dR=>by cases dR⟩,Tally.start,cR⟩
 obtain⟨m,j,n,hA,rfl,a8,cB,L⟩:=hrel;obtain⟨Q,aX,R,rfl⟩:=a8.a.shape3;obtain⟨gH,gM,gI,rfl⟩:=a8.t.shape3;obtain⟨b4,T,s⟩:=rZ a8 cB L;have g3:aX=j.length:=by obtain⟨_,_,k⟩:=a8.a.shape;injection k with _ k _
 have g2:gM=n.length:=by obtain⟨_,_,k⟩:=a8.t.shape;injection k with _ k _
 subst g3 g2;have h3:j.length<=b.length:=by have:=cB.le;have:=Au3 m b;omega
 clear a8 cB L;by_cases c9:m<b.length
 .have gZ:=rO m b.length
  obtain⟨g,P,bK,cM,cO⟩:=(b5.o.chg ((cV.o.trans (s.o.mono (λa _ x=>H))).fresh) iE).get c9;have aM:=cS.o H;subst aM;have X:=V P;have g5:=d9.o g (Az1 P);obtain⟨hL,hM⟩:=g5;have a2:G (b.take (m+1)=b.take m++[g]):=V (by rw[Ay3,X.o];rfl);have fP:a4<c.heap.size:=b5.o.lt (by intro x;rw[x]at c9;simp at c9);have c5:¬g < -1:=H;have dH:¬16777215<g:=H;clear P;go_wp2;obtain⟨d,rfl⟩:∃d:World,d=wr:=⟨_,D⟩
  go_loopw [7] (λu wr=>∃(a:Nat),a<=j.length/\u=.int .i64 a/\(∀(e:Nat) B,e<a->j[e]?=some B->B≠g)/\Cf d wr) (λu _=>j.length-(intOf u).toNat)
  .exact⟨0,H,D,λe B k=>absurd k (Ax1 _),cR⟩
  obtain⟨a,dT,rfl,aP,bD⟩:=hrel;obtain⟨w,aZ,b3⟩:=rZ aP bD (b4.o.chg bD (λ_ _ _ k=>k));have aT:=bD.cellS bK iD;clear aP bD;by_cases a5:a<j.length
  .obtain⟨fI,B,-,aR,rfl,e2,O,-,hT,hU,-,-⟩:=rU b3.o.a a5
   have c2:=V e2;have f6:=rO a j.length;clear e2;by_cases bI:B=g
   .subst bI
    have bF:a<n.length:=(by have:=T.o.len;omega);obtain⟨b9,o,-,fR,rfl,Y,aK,c4,g8,g9,dI,-⟩:=rU b3.o.t bF;have gS:=V Y;have f7:(B != B)=false:=sI;have h0:((a:Int) == (j.length:Int))=false:=sO;have d6:=V (T.o.cnt a B o c2.o Y);have bX:G (((b.take m).count B:Int)<=65536):=V (by have:=List.count_le_length (a:=B) (l:=b.take m);have:=Au3 m b;omega);have hG:o<=65536:=(by have:=d6.o;have:=bX.o;omega);have hH:0<=o:=(by have:=d6.o;omega);obtain⟨c0,c1,b0⟩:=rZ (T.o.old c2.o Y) ((b3.o.chg (S:=λ_=>False) (w':=wr.drew) (J.refl _ _).drew (λ_ _ _ k=>k)).set bF (x:=o+1) ⟨H,H⟩) ((s.o.trans aZ.o.any).drew.trans ((zA wr.drew b9 a (.int .i64 (o+1))).mono (T:=λe=>c.heap.size+1<=e) (λe _ x=>H)));clear Y;go_upto_region 11 with fail
    refine rH ?_
    iterate 15 (refine rI ?_)
    refine zW ?_;rintro i rfl;go_wp2;go_roundw
    .exact⟨m+1,j,_,H,GN,c1.o,by rw[a2.o];exact c0.o,b0.o⟩
    simp[intOf];omega
   have f7:(B != g)=true:=by simpa using bI
   have cT:G (∀(e:Nat) f,e<a+1->j[e]?=some f->f≠g):=V (λe f cA t=>by
    by_cases c8:e=a
    .subst c8;rw[c2.o]at t;obtain rfl:=Az2 t;exact bI
    exact w.o e f H t)
   clear bI;go_upto_region 11 with fail
   refine rH ?_
   iterate 15 (refine rI ?_)
   refine zW ?_;rintro i rfl;go_wp2;go_roundw
   .first|exact⟨a+1,H,GN,cT.o,aZ.o.drew⟩|((repeat apply Ay4);exact⟨⟨a+1,H,D,cT.o,aZ.o.drew⟩,by (repeat' apply And.intro) <;> first|rfl|go_num⟩)
   simp[intOf];omega
  obtain rfl:a=j.length:=H
  have f6:=rP j.length;have eM:G (g ∉ j):=V (λfV=>by
   obtain⟨e,cA,c8⟩:=Au2 fV;exact w.o e g cA (by rw[Az4 cA,c8]) D)
  have c0:=V (T.o.new eM.o);have b2:=V T.o.len;have aB:G (∀f∈[g],intE.ok f):=V (by intro f t;rw[Ay]at t;subst t;exact⟨cM,cO⟩);have d5:G (∀f∈[(0:Int)],intE.ok f):=V (by intro f t;rw[Ay]at t;subst t;exact⟨H,H⟩);obtain⟨v,A⟩:=rK wr.drew;have U:G (Cf wr v):=V (by rw[A];exact (J.refl _ _).drew);have hF:=U.o.cellS aT iD;have eX:=V (b3.o.chg U.o (λ_ _ _ k=>k));have d7:=V (eX.o.chg ((FR v).alloc (.cells #[.int .i64 g] 3)) (λ_ _ _ k=>k));have a9:=V ((s.o.trans aZ.o.any).trans U.o.any);have bM:G (c.heap.size+1<=(v.alloc (.cells #[.int .i64 g] 3)).heap.size):=V (by have:=a9.o.size;simp at this ⊢;omega);have N:=V A;have h6:n.length<=65536:=(by have:=T.o.len;omega);clear A aT;go_upto_region 11 with fail
  refine zS (λi=>i=v) M M ?_ ?_
  .exact N.o.symm
  iterate 5 (refine rI ?_)
  iterate 9 (refine sq ?_)
  (refine rI ?_);refine zW ?_;rintro i rfl;go_wp2_with (first
   | (at_builtin;refine Elt.wpList_append2 intE D (.tmp 56) (.tmp 61) 25 25 D D (c.heap.size+1) (.slice Q j.length R) j [g] (.slice (some ⟨i.heap.size,0,none⟩) 1 1) D D d7.o.a bM.o (intE.srcLit 1 aB.o) aB.o sO ?_;intro z r eD eF cP;have eZ:=V (d7.o.appA eD.o cP.o.1 cP.o.2);have d8:=V (eZ.o.chg ((FR r).alloc (.cells #[.int .i64 0] 3)) (λ_ _ _ k=>k));have cX:=V ((a9.o.alloc (.cells #[.int .i64 g] 3)).trans eF.o);have eH:G (c.heap.size+1<=(r.alloc (.cells #[.int .i64 0] 3)).heap.size):=V (by have:=cX.o.size;simp at this ⊢;omega))
   | (at_builtin;refine Elt.wpList_append2 intE D (.tmp 63) (.tmp 64) 25 25 D D (c.heap.size+1) (.slice gH n.length gI) n [0] (.slice (some ⟨r.heap.size,0,none⟩) 1 1) D D d8.o.t eH.o (intE.srcLit 1 d5.o) d5.o sO ?_;intro hI gR c3 f4 dF;have f0:=V (d8.o.appT c3.out dF.out.1 dF.out.2);have cZ:=V ((cX.o.alloc (.cells #[.int .i64 0] 3)).trans f4.out);obtain⟨hK,e9,gK,g0⟩:=c3.out.shape3;subst g0;obtain⟨b9,o,bH,dU,g1,Y,aK,c4,-,-,dI,fO⟩:=rU c3.out (k:=n.length) sI;have fZ:o=0:=(by simp at Y;exact Y.symm);subst fZ g1;rw[b2.o]at aK c4;have h4:j.length<e9:=(by rw[bH];simp;have:=b2.o;omega);have h7:=V bH;have hC:e9<=gK:=(by rw[bH];exact dU);clear bH dU Y))
  have c1:=V (f0.o.set (k:=n.length) sI (x:=1) ⟨H,H⟩);have b0:=V (cZ.o.trans ((zA gR b9 n.length (.int .i64 1)).mono (T:=λe=>c.heap.size+1<=e) (λe _ x=>H)));rw[b2.o]at b0;go_roundw
  .exact⟨m+1,j++[g],(n++[0]).set n.length 1,H,GN,by have:=c1.o;rw[b2.o]at this ⊢;exact this,by rw[a2.o];exact c0.o,b0.o⟩
  simp[intOf];omega
 obtain rfl:m=b.length:=H
 have aF:G (Tally j n b):=V (by have:=T.o;rwa [Ay7]at this);have cZ:=V (s.o.alloc (.cells #[.int .i64 (-1),.slice none 0 0] 236));have dB:=V (VarSt.start wr (.int .i64 (-1)) (.slice none 0 0) 236);have hE:c.heap.size+1<=wr.heap.size:=(by have:=s.o.size;simpa using this);have d1:=V (cV.o.trans (s.o.mono (T:=λa=>c.heap.size<=a) (λa _ x=>H)));have eT:=V (eR.o wr s.o);clear T s;go_wp2;obtain⟨d,rfl⟩:∃d:World,d=wr:=⟨_,D⟩
 go_loopw [9,10] (λgD u wr=>∃(a:Nat) (h o:Int),a<=j.length/\u=.int .i64 a/\gD=.int .i64 o/\(-1<=h/\h<=16777215/\0<=o/\o<=65536)/\VarSt d d.heap.size wr (.int .i64 h) (.slice none 0 0)/\bh j b a h o) (λ_ u _=>j.length-(intOf u).toNat)
 .exact⟨0,-1,0,H,D,D,H,dB.o,bh.start j b⟩
 clear dB;obtain⟨a,h,o,dT,rfl,rfl,⟨gT,gV,g8,g9⟩,e1,aP⟩:=hrel;have w:=V aP;have a3:=V e1;clear e1 aP;by_cases a5:a<j.length
 .have bF:a<n.length:=by have:=aF.o.len;omega
  have h8:=rO a j.length;obtain⟨v,A⟩:=rK wr.drew;have N:=V A;have E:G (VarSt d d.heap.size v (.int .i64 h) (.slice none 0 0)):=V (by rw[A];exact a3.o.drew);clear A;obtain⟨fI,f,-,aR,rfl,t,O,-,hP,hQ,h5,h9⟩:=rU b4.o.a a5;obtain⟨b9,q,-,fR,rfl,dP,aK,-,-,-,dI,fO⟩:=rU b4.o.t bF;have O:=E.o.chg.cellS O iD;have aK:=E.o.chg.cellS aK iD;have c4:=E.o.c0;have hV:=E.o.z0;have X:=V t;have aI:G (f∈b):=V ((aF.o.mem f).1 (Az1 t));have g4:=d9.o f aI.o;obtain⟨hR,hS⟩:=g4;have a0:G (q=(b.count f:Int)):=V (aF.o.cnt a f q t dP);have fM:0<=q/\q<=65536:=(by have:=a0.o;have:=List.count_le_length (a:=f) (l:=b);omega);obtain⟨h1,h2⟩:=fM;clear t dP a3;by_cases F:o<q
  .have c5:decide (o<q)=true:=by simpa using F
   have Z:=V (w.o.next X.o aI.o f q (.inl ⟨D,a0.o,.inl (by have:=a0.o;omega)⟩));have bZ:=V (E.o.step (.int .i64 f));clear w E;go_upto_region 22 with fail
   refine zS (λi=>i=v) M M ?_ ?_
   .exact N.o.symm
   iterate 7 (refine rI ?_)
   iterate 15 (refine sq ?_)
   (refine rI ?_);refine zW ?_;rintro i rfl;go_wp2;go_roundw
   .exact⟨a+1,f,q,H,GN,D,H,bZ.o,Z.o⟩
   simp[intOf];omega
  by_cases K:q=o
  .subst K
   have c5:decide (q<q)=false:=sI;have dH:(q == q)=true:=sI;by_cases aO:f<h
   .have f9:decide (f<h)=true:=by simpa using aO
    have Z:=V (w.o.next X.o aI.o f q (.inl ⟨D,a0.o,.inr ⟨by have:=a0.o;omega,aO⟩⟩));have bZ:=V (E.o.step (.int .i64 f));clear w E;go_upto_region 22 with fail
    refine zS (λi=>i=v) M M ?_ ?_
    .exact N.o.symm
    iterate 23 (refine rI ?_)
    refine zW ?_;rintro i rfl;go_wp2;go_roundw
    .exact⟨a+1,f,q,H,GN,D,H,bZ.o,Z.o⟩
    simp[intOf];omega
   have f9:decide (f<h)=false:=by simpa using aO
   have Z:=V (w.o.next X.o aI.o h q (.inr ⟨D,D,.inr ⟨by have:=a0.o;omega,H⟩⟩));clear w;go_upto_region 22 with fail
   refine zS (λi=>i=v) M M ?_ ?_
   .exact N.o.symm
   iterate 23 (refine rI ?_)
   refine zW ?_;rintro i rfl;go_wp2;go_roundw
   .exact⟨a+1,h,q,H,GN,D,H,E.o,Z.o⟩
   simp[intOf];omega
  have c5:decide (o<q)=false:=by simpa using F
  have dH:(q == o)=false:=(by simpa using K);have Z:=V (w.o.next X.o aI.o h o (.inr ⟨D,D,.inl (by have:=a0.o;omega)⟩));clear w;go_upto_region 22 with fail
  refine zS (λi=>i=v) M M ?_ ?_
  .exact N.o.symm
  iterate 14 (refine rI ?_)
  iterate 7 (refine sq ?_)
  iterate 2 (refine rI ?_)
  refine zW ?_;rintro i rfl;go_wp2;go_roundw
  .exact⟨a+1,h,o,H,GN,D,H,E.o,Z.o⟩
  simp[intOf];omega
 obtain rfl:a=j.length:=H
 have d2:=V (w.o.done aF.o);have d3:G (Fld uW d.heap.size 1 wr (.slice none 0 0) (zN h 0 (b.take 0))):=V ⟨a3.o.c1,a3.o.z1,.nil _ _⟩;have dD:=V a3.o.c0;have d0:=V (a3.o.chg.any (S:=λe=>d.heap.size<=e));clear w aF b4 a3;go_wp2;obtain⟨eB,rfl⟩:∃eB:World,eB=wr:=⟨_,D⟩
 go_loopw [11] (λu wr=>∃(m:Nat) (aV:Value),m<=b.length/\u=.int .i64 m/\Fld uW d.heap.size 1 wr aV (zN h 0 (b.take m))/\wr.cell? ⟨d.heap.size,0,none⟩=some (.int .i64 h)/\J (λe=>d.heap.size<=e) d wr) (λu _=>b.length-(intOf u).toNat)
 .exact⟨0,_,H,D,d3.o,dD.o,d0.o⟩
 clear d3 dD d0;obtain⟨a,aV,dT,rfl,a6,dO,L⟩:=hrel;obtain⟨a1,s,aY⟩:=rZ a6 L dO;obtain⟨Q,aX,R,rfl⟩:=a6.own.shape3;clear a6 L dO;by_cases a5:a<b.length
 .have gX:=rO a b.length
  obtain⟨g,P,bK,cM,cO⟩:=(b5.o.chg (d1.o.trans (s.o.mono (T:=λe=>c.heap.size<=e) (λe _ x=>H))).fresh iE).get a5;have aM:=cS.o H;subst aM;have fP:a4<c.heap.size:=b5.o.lt (by intro x;rw[x]at a5;simp at a5);have X:=V P;have dZ:(b.take a).length=a:=(by rw[Ay8];omega);have aD:=V (jt h (b.take a) g 0);rw[dZ,Ax]at aD;have a2:G (b.take (a+1)=b.take a++[g]):=V (by rw[Ay3,X.o];rfl);obtain⟨v,A⟩:=rK wr.drew;have N:=V A;have U:G (Cf wr v):=V (by rw[A];exact (J.refl _ _).drew);have aT:=U.o.cellS bK iD;have b8:=U.o.cellS aY.o iD;have bT:=V (a1.o.chg U.o (λ_ _ _ k=>k));have a9:=V (s.o.trans U.o.any);clear P dZ A bK;by_cases cH:g=h
  .subst cH
   have f5:(g != g)=false:=sI;have eK:G (Fld uW d.heap.size 1 v (.slice Q aX R) (zN g 0 (b.take (a+1)))):=V (by rw[a2.o,aD.o,if_pos D];exact bT.o);have bO:=V b8;clear a1 aD a2 aY s;go_upto_region 28 with fail
   refine zS (λi=>i=v) M M ?_ ?_
   .exact N.o.symm
   iterate 7 (refine rI ?_)
   refine zW ?_;rintro i rfl;go_wp2;go_roundw
   .exact⟨a+1,_,H,GN,eK.o,bO.o,a9.o⟩
   simp[intOf];omega
  have f5:(g != h)=true:=by simpa using cH
  have b1:G (zN h 0 (b.take (a+1))=zN h 0 (b.take a)++[((a:Int),g)]):=V (by rw[a2.o,aD.o,if_neg cH]);have bX:G ((zN h 0 (b.take a)).length<=65536):=V (by have:=tG h (b.take a) 0;have:=Au3 a b;omega);have aB:G (∀f∈[((a:Int),g)],uW.ok f):=V (by
   intro f t;simp only[Ay]at t;subst t;exact⟨⟨by show -9223372036854775808<=(a:Int);omega,by show (a:Int)<=9223372036854775807;omega⟩,⟨cM,cO⟩⟩)
  have bO:=V b8;go_upto_region 28 with fail
  refine zS (λi=>i=v) M M ?_ ?_
  .exact N.o.symm
  iterate 7 (refine rI ?_)
  refine zW ?_;rintro i rfl;clear a1 aD a2 aY s b8;go_upto_region 29 with fail
  obtain⟨y,cF⟩:=rK i.drew;have f1:G (i.drew=y):=V cF.symm;have aH:G (Cf i y):=V (by rw[cF];exact (J.refl _ _).drew);have O:=bT.o.c;have bP:=V ((bT.o.chg aH.o (λ_ _ _ k=>k)).chg ((FR y).alloc (.cells #[.int .i64 a,.int .i64 g] 238)) (λ_ _ _ k=>k));have bM:G (d.heap.size+1<=(y.alloc (.cells #[.int .i64 a,.int .i64 g] 238)).heap.size):=V (by have:=bP.o.lt;omega);have eI:G (∀z r,uW.Own r (d.heap.size+1) z (zN h 0 (b.take a)++[((a:Int),g)])->J (λe=>d.heap.size+1<=e) (y.alloc (.cells #[.int .i64 a,.int .i64 g] 238)) r ->
   (r.cell? ⟨d.heap.size,1,none⟩=some (.slice Q aX R)/\r.frozen? ⟨d.heap.size,1,none⟩=false)/\Fld uW d.heap.size 1 (r.setCell ⟨d.heap.size,1,none⟩ z) z (zN h 0 (b.take (a+1)))/\(r.setCell ⟨d.heap.size,1,none⟩ z).cell? ⟨d.heap.size,0,none⟩=some (.int .i64 h)/\J (λe=>d.heap.size<=e) d (r.setCell ⟨d.heap.size,1,none⟩ z)):=V (by
   intro z r F K;obtain⟨e3,e4,g6,g7⟩:=bP.o.step F K;exact⟨e3,by rw[b1.o];exact e4,g7 0 _ H (((aH.o.trans ((FR y).alloc _)).cellS bO.o iD)),a9.o.trans (aH.o.any.trans (((J.refl _ y).alloc _).trans g6))⟩)
  clear cF;refine zC (λf=>J (λe=>d.heap.size+1<=e) y f) (λm=>decide (m=11)) M ?_;show yC _ _ _ _ _ _ 12 (Array.replicate 12 false) _ i.drew;rw[f1.o];have C:G (J (λe=>d.heap.size+1<=e) y y):=V cR;have eP:=V (aH.o.cellS aT iD);have eO:=V (aH.o.cellS O iD);have a7:¬d.heap.size+1<=a4:=H;clear aT O;refine lq 0 C.o ?_;(refine lf 1 C.o (λ_ c7=>c7.cellS eO.o (show ¬d.heap.size+1<=d.heap.size by omega)) ?_);refine lq 2 C.o ?_;refine lq 3 C.o ?_;refine lq 4 C.o ?_;refine lq 5 C.o ?_;(refine lf 6 C.o (λ_ c7=>c7.cellS eP.o a7) ?_);refine lq 7 C.o ?_;refine lt 8 (λ_=>C.o.alloc _) ?_;refine yQ (i:=9) M D D (.tmp 125) (.tmp 132) 234 234 D (.slice Q aX R) (.slice (some ⟨y.heap.size,0,none⟩) 1 1) D D (λz r=>uW.Own r (d.heap.size+1) z (zN h 0 (b.take a)++[((a:Int),g)])/\J (λe=>d.heap.size+1<=e) (y.alloc (.cells #[.int .i64 a,.int .i64 g] 238)) r) ?_ ?_
  .obtain⟨z,r,fX,F,K,-⟩:=bP.o.own.append bM.o 234 (.slice (some ⟨y.heap.size,0,none⟩) 1 1) [((a:Int),g)] (uW.srcLit 1 aB.o) aB.o (by have:=bX.o;simp;omega) 234
   exact⟨z,r,fX,λ_=>(C.o.alloc _).trans K,F,K⟩
  rintro z r dX ⟨F,K⟩ f3 dK;obtain⟨gO,hO,gP,cD⟩:=F.shape3;subst cD;obtain⟨⟨e3,e4⟩,a6⟩:=eI.o _ r F K;have bV:=V a6;have eV:=V (dX dE);clear a6 F K dX;(try go_simp)
  refine dK _ ?_;clear dK f3;refine lt 10 (λ_=>eV.o) ?_;refine ld 11 ?_;refine zQ M ?_ _;go_wp2;go_roundw
  .exact⟨a+1,_,H,GN,bV.o.1,bV.o.2.1,bV.o.2.2⟩
  simp[intOf];omega
 obtain rfl:a=b.length:=H
 obtain⟨gO,hN,gP,cD,aR,-,-⟩:=a1.o.own.at';injection cD with aM fB fD;subst aM fB fD;obtain⟨cI,cK,e6,e7⟩:=eT.o;have dV:c.heap.size<d.heap.size:=H;have a7:¬d.heap.size<=c.heap.size:=H;have cI:=s.o.cellS cI a7;have cK:=s.o.cellS cK a7;have e6:=(s.o.frozen (p:=⟨c.heap.size,0,none⟩) dV a7).trans e6;have e7:=(s.o.frozen (p:=⟨c.heap.size,1,none⟩) dV a7).trans e7;have hD:c.heap.size≠d.heap.size:=H;have O:=a1.o.c;have b8:=aY.o;have b1:G (b.take b.length=b):=V (Ay7);rw[b1.o]at aR O;have fT:=tG h b 0;obtain⟨b6,bB⟩:=rM (zN h 0 b);rw[bB]at aR O fT;have d4:=V (a1.o.own);rw[b1.o,bB]at d4;have f2:=V bB;clear bB a1;go_wp2;obtain⟨fF,fH,c6⟩:=bw (.int .i64 h) (.slice Q b6.length R) cI cK;have aO:=((d4.o.chg c6 (λa4 dR _ x=>H)).in' aR).lower (B':=c.heap.size) H;have fK:=((d1.o.trans (s.o.mono (T:=λa=>c.heap.size<=a) (λa _ x=>H))).trans (c6.mono (λa _ x=>H))).fresh;clear c6
 generalize (wr.setCell ⟨c.heap.size,0,none⟩ (.int .i64 h)).setCell ⟨c.heap.size,1,none⟩ (.slice Q b6.length R)=W at *
 refine bodyPost_ret (v:=.tuple #[.agg #[.int .i64 h,.slice Q b6.length R],.int .i64 0]) (by simp[results,results163,go_sem,fF,fH]) D ⟨(Q,b6.length,R),?_,?_,fK⟩
 .rw[<-d2.o];rfl
 rw[<-d2.o,f2.o];exact aO
theorem Cb (d:List Int) (a0:Option Addr) (K bO cI:Nat) (a:World) (t:I.BytesAt a K bO d) (bB:0<d.length->a0=some ⟨K,bO,none⟩) (e5:d.length<=65536) (bI:tN d=true) :
  Calls prog 163 #[.slice a0 d.length cI] a λm q=>m=.returned (ofV 0 (none,0,0) 1)/\Cf a q:=by
 obtain⟨b3,bZ,c9,Q⟩:=sB t bB bI ((J.refl (λb=>a.heap.size<=b) a).alloc (.cells #[.int .i64 0,.slice none 0 0] 236));have aX:G (∀wr,J (λb=>a.heap.size+1<=b) (a.alloc (.cells #[.int .i64 0,.slice none 0 0] 236)) wr->wr.cell? ⟨a.heap.size,0,none⟩=some (.int .i64 0)/\wr.cell? ⟨a.heap.size,1,none⟩=some (.slice none 0 0)/\wr.frozen? ⟨a.heap.size,0,none⟩=false/\wr.frozen? ⟨a.heap.size,1,none⟩=false):=V λwr s =>
  ⟨s.cellS sI (by show ¬a.heap.size+1<=a.heap.size;omega),s.cellS sI (by show ¬a.heap.size+1<=a.heap.size;omega),(s.frozen (p:=⟨a.heap.size,0,none⟩) sI (by show ¬a.heap.size+1<=a.heap.size;omega)).trans (Az6 _ _ _ _),(s.frozen (p:=⟨a.heap.size,1,none⟩) sI (by show ¬a.heap.size+1<=a.heap.size;omega)).trans (Az6 _ _ _ _)⟩
 clear t bB bI;go_enter func163,ntmps163
 go_wp2
 go_loopw [4,5,6] (λaF d6 u wr=>∃(h:Nat) (c f:List Int),h<=d.length/\u=.int .i64 h/\TwoL (a.heap.size+1) wr aF d6 c f/\(Tally c f (d.take h)/\∀A∈d.take h,kE A)/\J (λb=>a.heap.size+1<=b) (a.alloc (.cells #[.int .i64 0,.slice none 0 0] 236)) wr) (λ_ _ u _=>d.length-(intOf u).toNat)
 .exact⟨0,[],[],H,D,⟨.nil _ _,.nil _ _,(λK cP=>by cases cP)⟩,⟨Tally.start,sI⟩,cR⟩
 obtain⟨h,c,f,e3,rfl,y,⟨a8,bK⟩,s⟩:=hrel;have b2:=V bK;obtain⟨dD,dH,dF,rfl⟩:=y.a.shape3;obtain⟨d7,dB,d8,rfl⟩:=y.t.shape3;obtain⟨c6,w,r⟩:=rZ y a8 s;have d1:dH=c.length:=by obtain⟨_,_,g⟩:=y.a.shape;injection g with _ g _
 have d0:dB=f.length:=by obtain⟨_,_,g⟩:=y.t.shape;injection g with _ g _
 subst d1 d0;have dV:c.length<=d.length:=by have:=a8.le;have:=Au3 h d;omega
 clear y a8 s bK;by_cases a6:h<d.length
 .have dP:=rO h d.length
  obtain⟨e,t,d2,dK,dM⟩:=(b3.o.chg ((Q.o.trans (r.o.mono (λb _ m=>H))).fresh) iE).get a6;have cM:=bZ.o H;subst cM;have cB:=V t;have T:G (d.take (h+1)=d.take h++[e]):=V (by rw[Ay3,cB.o];rfl);have e2:K<a.heap.size:=b3.o.lt (by intro m;rw[m]at a6;simp at a6);by_cases b7:e < -1
  .have d3:decide (e < -1)=true:=by simpa using b7
   obtain⟨aB,aD,d4,d5⟩:=aX.o wr r.o;clear t;go_wp2;obtain⟨a1,a2,z⟩:=bw (.int .i64 0) (.slice none 0 0) aB aD;have a4:=((Q.o.trans (r.o.mono (T:=λb=>a.heap.size<=b) (λb _ m=>H))).trans (z.mono (λb _ m=>H))).fresh;clear z
   generalize (wr.setCell ⟨a.heap.size,0,none⟩ (.int .i64 0)).setCell ⟨a.heap.size,1,none⟩ (.slice none 0 0)=W at *
   exact bodyPost_ret (v:=.tuple #[.agg #[.int .i64 0,.slice none 0 0],.int .i64 1]) (by simp[results,results163,go_sem,a1,a2]) D ⟨D,a4⟩
  have eB:decide (e < -1)=false:=by simpa using b7
  by_cases cK:16777215<e
  .have d3:decide (16777215<e)=true:=by simpa using cK
   obtain⟨aB,aD,d4,d5⟩:=aX.o wr r.o;clear t;go_wp2;obtain⟨a1,a2,z⟩:=bw (.int .i64 0) (.slice none 0 0) aB aD;have a4:=((Q.o.trans (r.o.mono (T:=λb=>a.heap.size<=b) (λb _ m=>H))).trans (z.mono (λb _ m=>H))).fresh;clear z
   generalize (wr.setCell ⟨a.heap.size,0,none⟩ (.int .i64 0)).setCell ⟨a.heap.size,1,none⟩ (.slice none 0 0)=W at *
   exact bodyPost_ret (v:=.tuple #[.agg #[.int .i64 0,.slice none 0 0],.int .i64 1]) (by simp[results,results163,go_sem,a1,a2]) D ⟨D,a4⟩
  have b1:G (∀A∈d.take (h+1),kE A):=V (λA x=>by
   rw[T.o]at x;rcases Aw9.1 x with x|x
   .exact b2.o A x
   rw[Ay.1 x];exact⟨H,H⟩)
  clear t;go_wp2;obtain⟨aI,rfl⟩:∃aI:World,aI=wr:=⟨_,D⟩
  go_loopw [7] (λu wr=>∃(b:Nat),b<=c.length/\u=.int .i64 b/\(∀(i:Nat) k,i<b->c[i]?=some k->k≠e)/\Cf aI wr) (λu _=>c.length-(intOf u).toNat)
  .exact⟨0,H,D,λi k g=>absurd g (Ax1 _),cR⟩
  obtain⟨b,e4,rfl,bD,L⟩:=hrel;obtain⟨aM,B,F⟩:=rZ bD L (c6.o.chg L (λ_ _ _ g=>g));have bP:=L.cellS d2 iD;clear bD L;by_cases cS:b<c.length
  .obtain⟨dU,k,-,e6,rfl,bM,dT,-,eP,eR,-,-⟩:=rU F.o.a cS
   have Y:=V bM;have cF:=rO b c.length;clear bM;by_cases O:k=e
   .subst O
    have bF:b<f.length:=(by have:=w.o.len;omega);obtain⟨a3,v,-,e7,rfl,o,b5,b6,eD,eF,cO,-⟩:=rU F.o.t bF;have dO:=V o;have cH:(k != k)=false:=sI;have dR:((b:Int) == (c.length:Int))=false:=sO;have aY:=V (w.o.cnt b k v Y.o o);have c3:G (((d.take h).count k:Int)<=65536):=V (by have:=List.count_le_length (a:=k) (l:=d.take h);have:=Au3 h d;omega);have eH:v<=65536:=(by have:=aY.o;have:=c3.o;omega);have eI:0<=v:=(by have:=aY.o;omega);obtain⟨R,U,C⟩:=rZ (w.o.old Y.o o) ((F.o.chg (S:=λ_=>False) (w':=wr.drew) (J.refl _ _).drew (λ_ _ _ g=>g)).set bF (x:=v+1) ⟨H,H⟩) ((r.o.trans B.o.any).drew.trans ((zA wr.drew a3 b (.int .i64 (v+1))).mono (T:=λi=>a.heap.size+1<=i) (λi _ m=>H)));clear o;go_upto_region 11 with fail
    refine rH ?_
    iterate 15 (refine rI ?_)
    refine zW ?_;rintro q rfl;go_wp2;go_roundw
    .exact⟨h+1,c,_,H,GN,U.o,⟨by rw[T.o];exact R.o,b1.o⟩,C.o⟩
    simp[intOf];omega
   have cH:(k != e)=true:=by simpa using O
   have aO:G (∀(i:Nat) j,i<b+1->c[i]?=some j->j≠e):=V (λi j a7 n=>by
    by_cases a5:i=b
    .subst a5;rw[Y.o]at n;obtain rfl:=Az2 n;exact O
    exact aM.o i j H n)
   clear O;go_upto_region 11 with fail
   refine rH ?_
   iterate 15 (refine rI ?_)
   refine zW ?_;rintro q rfl;go_wp2;go_roundw
   .first|exact⟨b+1,H,GN,aO.o,B.o.drew⟩|((repeat apply Ay4);exact⟨⟨b+1,H,D,aO.o,B.o.drew⟩,by (repeat' apply And.intro) <;> first|rfl|go_num⟩)
   simp[intOf];omega
  obtain rfl:b=c.length:=H
  have cF:=rP c.length;have c4:G (e ∉ c):=V (λcT=>by
   obtain⟨i,a7,a5⟩:=Au2 cT;exact aM.o i e a7 (by rw[Az4 a7,a5]) D)
  have R:=V (w.o.new c4.o);have E:=V w.o.len;have aT:G (∀j∈[e],intE.ok j):=V (by intro j n;rw[Ay]at n;subst n;exact⟨dK,dM⟩);have aV:G (∀j∈[(0:Int)],intE.ok j):=V (by intro j n;rw[Ay]at n;subst n;exact⟨H,H⟩);obtain⟨P,a9⟩:=rK wr.drew;have X:G (Cf wr P):=V (by rw[a9];exact (J.refl _ _).drew);have e9:=X.o.cellS bP iD;have c5:=V (F.o.chg X.o (λ_ _ _ g=>g));have aZ:=V (c5.o.chg ((FR P).alloc (.cells #[.int .i64 e] 3)) (λ_ _ _ g=>g));have aR:=V ((r.o.trans B.o.any).trans X.o.any);have c0:G (a.heap.size+1<=(P.alloc (.cells #[.int .i64 e] 3)).heap.size):=V (by have:=aR.o.size;simp at this ⊢;omega);have cA:=V a9;have dZ:f.length<=65536:=(by have:=w.o.len;omega);clear a9 bP;go_upto_region 11 with fail
  refine zS (λq=>q=P) M M ?_ ?_
  .exact cA.o.symm
  iterate 5 (refine rI ?_)
  iterate 9 (refine sq ?_)
  (refine rI ?_);refine zW ?_;rintro q rfl;go_wp2_with (first
   | (at_builtin;refine Elt.wpList_append2 intE D (.tmp 56) (.tmp 61) 25 25 D D (a.heap.size+1) (.slice dD c.length dF) c [e] (.slice (some ⟨q.heap.size,0,none⟩) 1 1) D D aZ.o.a c0.o (intE.srcLit 1 aT.o) aT.o sO ?_;intro eO aH bV bX aK;have c7:=V (aZ.o.appA bV.o aK.o.1 aK.o.2);have b0:=V (c7.o.chg ((FR aH).alloc (.cells #[.int .i64 0] 3)) (λ_ _ _ g=>g));have aP:=V ((aR.o.alloc (.cells #[.int .i64 e] 3)).trans bX.o);have c1:G (a.heap.size+1<=(aH.alloc (.cells #[.int .i64 0] 3)).heap.size):=V (by have:=aP.o.size;simp at this ⊢;omega))
   | (at_builtin;refine Elt.wpList_append2 intE D (.tmp 63) (.tmp 64) 25 25 D D (a.heap.size+1) (.slice d7 f.length d8) f [0] (.slice (some ⟨aH.heap.size,0,none⟩) 1 1) D D b0.o.t c1.o (intE.srcLit 1 aV.o) aV.o sO ?_;intro eK dI Z cD b4;have c8:=V (b0.o.appT Z.out b4.out.1 b4.out.2);have c2:=V ((aP.o.alloc (.cells #[.int .i64 0] 3)).trans cD.out);obtain⟨eM,bT,d9,cX⟩:=Z.out.shape3;subst cX;obtain⟨a3,v,N,bH,cZ,o,b5,b6,-,-,cO,e1⟩:=rU Z.out (k:=f.length) sI;have cV:v=0:=(by simp at o;exact o.symm);subst cV cZ;rw[E.o]at b5 b6;have dX:c.length<bT:=(by rw[N];simp;have:=E.o;omega);have e0:=V N;have e8:bT<=d9:=(by rw[N];exact bH);clear N bH o))
  have U:=V (c8.o.set (k:=f.length) sI (x:=1) ⟨H,H⟩);have C:=V (c2.o.trans ((zA dI a3 f.length (.int .i64 1)).mono (T:=λi=>a.heap.size+1<=i) (λi _ m=>H)));rw[E.o]at C;go_roundw
  .exact⟨h+1,c++[e],(f++[0]).set f.length 1,H,GN,by have:=U.o;rw[E.o]at this ⊢;exact this,⟨by rw[T.o];exact R.o,b1.o⟩,C.o⟩
  simp[intOf];omega
 obtain rfl:h=d.length:=H
 have b8:=b2.o;rw[Ay7]at b8;have b9:=c9.o;rw[nC.2 b8]at b9;cases b9
def ofD (Z:List Int):Int:=if tN Z then 0 else xL Z
def ofL (Z:List Int):List (Int×Int):=if tN Z then [] else zN (xL Z) 0 Z
def ofE (Z:List Int):Int:=if tN Z then 1 else 0
theorem rr (Z:List Int):(ofL Z).length<=Z.length:=by
 unfold ofL
 split
 .simp
 exact tG _ _ _
theorem Cc (a:List Int) (b:∀e∈a,I.Byte e):I.Byte (ofD a):=by
 unfold ofD
 split
 .exact⟨H,H⟩
 rcases pY a with ⟨_,d⟩|⟨c,_⟩
 .rw[d];exact⟨H,H⟩
 exact b _ c
theorem rt (a:List Int) (d:Option Addr) (e f g:Nat) (c:World) (l:I.BytesAt c e f a) (j:0<a.length->d=some ⟨e,f,none⟩) (k:a.length<=65536) :
  Calls prog 163 #[.slice d a.length g] c λi h=>∃m,i=.returned (ofV (ofD a) m (ofE a))/\uW.In h c.heap.size m (ofL a)/\Cf c h:=by
 by_cases b:tN a=true
 .rw[show ofD a=0 from if_pos b,show ofL a=[] from if_pos b,show ofE a=1 from if_pos b]
  exact (Cb a d e f g c l j k b).mono λi h ⟨n,o⟩=>⟨(none,0,0),n,.nil _ _ _,o⟩
 rw[show ofD a=xL a from if_neg b,show ofL a=zN (xL a) 0 a from if_neg b,show ofE a=0 from if_neg b]
 exact Ca a d e f g c l j k (by simpa using b)
theorem ru (r s:RowD):uL r s=uL s r:=by
 unfold uL;by_cases h:r=s
 .rw[h]
 rw[decide_eq_false h,decide_eq_false (λe=>h e.symm)]
theorem fS {b c:List (Int×Sl)}(y:rowR.Own w a A b) (t:rowR.Own w a A c):b=c:=by
 have L:∀(n:Nat) (b c:List (Int×Sl)) (g D:List (Int×Sl)) (j:Nat),b.length=n->c.length=n->rowR.Row w j g->rowR.Row w j D->b <+: g->c <+: D->b=c:=by
  intro n b c g D j O P l m C E
  apply List.ext_getElem H
  intro d z B;have o:=(l.at' C);have p:=(m.at' E);have r:b[d]?=some b[d]:=Az4 z;have s:c[d]?=some c[d]:=Az4 B;have v:=o.get r (i:=0) (u:=.int .i64 b[d].1) rfl;have f:=p.get s (i:=0) (u:=.int .i64 c[d].1) rfl;have x:=o.get r (i:=1) (u:=slV b[d].2) rfl;have h:=p.get s (i:=1) (u:=slV c[d].2) rfl;rw[v]at f;rw[x]at h;injection f with f;injection f with _ f;injection h with h;unfold slV at h;injection h with e k q;exact Prod.ext f (Prod.ext e (Prod.ext k q))
 rcases y with ⟨rfl,rfl⟩|⟨j,g,rfl,_,l,F,_⟩
 .rcases t with ⟨_,rfl⟩|⟨j,D,i,_⟩
  .rfl
  cases i
 rcases t with ⟨i,_⟩|⟨N,D,i,_,m,K,_⟩
 .cases i
 injection i with e k q
 injection e with e;injection e with e;subst e;exact L b.length b c g D _ rfl k.symm l m F K
def Cd (b:World) (d:Int) (a:List (List Int)) (e:Ending) (c:World):Prop :=
 (uQ d a=false/\e=.returned (tabV 0 none 0 0 none 0 0 1)/\Cf b c) \/
 (uQ d a=true/\∃h f i g,e=.returned (tabV d h (yJ a).1.length i f (yJ a).2.length g 0)/\vW uW rowR c b.heap.size (h,(yJ a).1.length,i) (yJ a).1/\OfIn c b.heap.size f (yJ a).2/\(yJ a).2.length<=g/\Cf b c)
theorem Ce (h:Int) (c:List (List Int)) (a8:Option Addr) (a9 fP:Nat) (a:World) (k:rN a fP (a8,c.length,a9) c) (hG:0<=h) (C:h<=65536) (hN:c.length<=65536) (f3:∀d∈c,d.length<=65536) :
  Calls prog 122 #[.int .i64 h,.slice a8 c.length a9] a (Cd a h c):=by
 have g0:=V k;have e2:=V f3;have hE:decide (h<0)=false:=by simp;omega
 have hF:decide (65536<h)=false:=by simp;omega
 have dR:=V ((J.refl (λb=>a.heap.size<=b) a).alloc (.cells #[.int .i64 0,.slice none 0 0,.slice none 0 0] 194));have bO:G (∀wr,J (λb=>a.heap.size+1<=b) (a.alloc (.cells #[.int .i64 0,.slice none 0 0,.slice none 0 0] 194)) wr->(wr.cell? ⟨a.heap.size,0,none⟩=some (.int .i64 0)/\wr.cell? ⟨a.heap.size,1,none⟩=some (.slice none 0 0)/\wr.cell? ⟨a.heap.size,2,none⟩=some (.slice none 0 0))/\∀i,wr.frozen? ⟨a.heap.size,i,none⟩=false):=V λwr s =>
  ⟨⟨s.cellS sI (by show ¬a.heap.size+1<=a.heap.size;omega),s.cellS sI (by show ¬a.heap.size+1<=a.heap.size;omega),s.cellS sI (by show ¬a.heap.size+1<=a.heap.size;omega)⟩,λi=>(s.frozen (p:=⟨a.heap.size,i,none⟩) sI (by show ¬a.heap.size+1<=a.heap.size;omega)).trans (Az6 _ _ _ _)⟩
 obtain⟨bD,bZ⟩:=rK (a.alloc (.cells #[.int .i64 0,.slice none 0 0,.slice none 0 0] 194));have f6:bD.heap.size=a.heap.size+1:=by rw[bZ];simp
 have eF:G (TabSt uW rowR (a.heap.size+1) (bD.alloc (.cells #[.int .i64 h,.slice none 0 0,.slice none 0 0] 194)) h [] [] (.slice none 0 0) (.slice none 0 0)):=V (by
  rw[<-f6];exact⟨by rw[Az5];rfl,by rw[Az5];rfl,Az6 _ _ _ _,by rw[Az5];rfl,Az6 _ _ _ _,⟨[],.nil _ _,rfl,λi aK aH A=>by simp at A⟩,.nil _ _,λa4 d4=>by cases d4⟩)
 have dT:G (J (λb=>a.heap.size+1<=b) bD (bD.alloc (.cells #[.int .i64 h,.slice none 0 0,.slice none 0 0] 194))):=V (rT);rw[<-bZ]at dR bO;have g4:=V bZ;clear k f3 bZ f6;go_enter func122,ntmps122
 go_wp2;rw[<-g4.o]
 go_loopw [7] (λu wr=>∃(b:Nat) (K c0:Value),b<=c.length/\u=.int .i64 b/\uQ h (c.take b)=true/\TabSt uW rowR (a.heap.size+1) wr h (yJ (c.take b)).1 (yJ (c.take b)).2 K c0/\J (λb=>a.heap.size+1<=b) bD wr) (λu _=>c.length-(intOf u).toNat)
 .exact⟨0,_,_,H,rfl,rfl,eF.o,dT.o⟩
 clear eF dT;obtain⟨b,K,c0,hL,rfl,f5,f7,s⟩:=hrel;obtain⟨cI,x,c8,cA⟩:=sB f5 f7 s ((dR.o.trans (s.mono (T:=λb=>a.heap.size<=b) (λb _ r=>H))).fresh);clear f5 f7 s;by_cases gI:b<c.length
 .have hC:=rO b c.length
  obtain⟨d,a4,dI,f9,gV,eV,fD,bX,rfl,aX,hM,d7,f4,hI,-⟩:=(g0.o.same cA.o).get gI;have e1:=V bX;have e0:=V d7;have e3:G (0<d.length->f9=some ⟨eV,fD,none⟩):=V (λk=>(f4 k).1);have gK:=e2.o d (Az1 bX);have eH:G (c.take (b+1)=c.take b++[d]):=V (by rw[Ay3,bX];rfl);have c6:G (nE h d=false->uQ h c=false):=V (λk=>by
   unfold uQ;rw[List.all_eq_false];exact⟨d,Az1 e1.o,by simp[k]⟩)
  have dV:=V (Cc d d7.byte);have g1:=V (rr d);have bK:G (tN d=false->(ofD d=xL d/\ofL d=zN (xL d) 0 d/\ofE d=0)):=V (λk=>⟨by simp[ofD,k],by simp[ofL,k],by simp[ofE,k]⟩);have cB:G (tN d=true->ofE d=1):=V (λk=>by simp[ofE,k]);clear bX d7 f4;go_wp2_with fail
  refine (rt d f9 eV fD gV wr e0.o e3.o gK).mono ?_;rintro r dM ⟨⟨l,h2,o⟩,rfl,a6,f2⟩;obtain rfl:h2=(ofL d).length:=a6.1;unfold ofV slV;simp only;obtain⟨N,b3⟩:=rK (dM.alloc (.cells #[.int .i64 (ofD d),.slice l (ofL d).length o] 236));have bH:G (Cf wr N):=V (by rw[b3];exact f2.alloc _);have bP:=V (x.o.same bH.o);have dU:=V (cA.o.trans bH.o);have bI:=V (c8.o.trans bH.o.any);have dP:G (a.heap.size+2<=wr.heap.size):=V (by have:=x.o.lt;omega);have aT:G (uW.In N wr.heap.size (l,(ofL d).length,o) (ofL d)):=V (by rw[b3];exact a6.same (rT));have bF:G (∀aI,Cf N aI->aI.cell? ⟨dM.heap.size,0,none⟩=some (.int .i64 (ofD d))/\aI.cell? ⟨dM.heap.size,1,none⟩=some (.slice l (ofL d).length o)):=V (λaI A=>by subst b3;exact⟨A.cellS sI iD,A.cellS sI iD⟩);have eI:=V b3;have cT:G (kU uW N (a.heap.size+1+1) (ofD d,l,(ofL d).length,o) (ofD d,ofL d)):=V ⟨rfl,dV.o,aT.o.lower (by have:=dP.o;omega)⟩;have bT:G (0<(ofL d).length->∀a4 dI,l=some ⟨a4,dI,none⟩->K.ownBlock≠some a4/\c0.ownBlock≠some a4/\a.heap.size+1<a4):=V (λgO a4 dI d4=>by
   obtain⟨_,_,eT,fB,_,gT⟩:=aT.o;obtain⟨E,eX⟩:=gT gO
   change l=_ at E
   rw[d4]at E;injection E with E;injection E with E;subst E;obtain⟨e,a5,_⟩:=x.o.rows;have:=dP.o;exact⟨λr=>by have:=(a5.blk r).2;omega,λr=>by have:=(x.o.of.blk r).2;omega,H⟩)
  obtain⟨a0,h5,L,rfl⟩:∃a8 dH a9,K=.slice a8 dH a9:=(by obtain⟨e,C,_⟩:=x.o.rows;exact C.shape3);obtain⟨Y,h4,Z,rfl⟩:=x.o.of.shape3;obtain⟨-,-,gS,gP,d8,d9⟩:=x.o.final cR;subst gS gP;have cH:=V (sE (c.take b));have g9:(yJ (c.take b)).1.length<=1000000:=(by have:=cH.o.1;have:=Au3 b c;omega);have g8:(yJ (c.take b)).2.length<=1000000:=(by have:=cH.o.2;have:=Au3 b c;omega);have gM:(ofL d).length<=1000000000:=(by have:=g1.o;omega);have cO:G (tN d=false->yJ (c.take (b+1))=addL (yJ (c.take b)) (ofD d,ofL d)):=V (λk=>by rw[eH.o,et,(bK.o k).1,(bK.o k).2.1];rfl);have e4:G (nE h d=true->uQ h (c.take (b+1))=true):=V (λk=>by
   have:=cI.o;unfold uQ at this ⊢;rw[eH.o,List.all_append,this];simp[k])
  have eB:G (∀aH∈(yJ (c.take b)).1,aH.2.length<=1000000000):=V (λaH b2=>by
   obtain⟨b4,C,rfl⟩:=eJ _ aH b2;have:=tG (xL b4) b4 0;have:=e2.o b4 (Av8 C);show (zN (xL b4) 0 b4).length<=_;omega)
  obtain⟨f,d1⟩:=rM ((yJ (c.take b)).1);obtain⟨m,d0⟩:=rM ((yJ (c.take b)).2);have e7:G (yJ (c.take b)=(f,m)):=V (by rw[<-d1,<-d0]);rw[d1]at g9 d8 bP bT eB;rw[d0]at g8 d9 bP bT;obtain⟨D,cX⟩:=rM (ofD d);obtain⟨e,a5⟩:=rM (ofL d);obtain⟨fR,bV⟩:=rM (ofE d);rw[a5]at aT;rw[cX,a5]at bF cT cO eI;rw[a5]at bT gM;rw[bV]at cB;rw[cX,a5,bV];have dX:G (tN d=false->fR=0):=V (λk=>by rw[<-bV];exact (bK.o k).2.2);clear a6 f2 b3 d1 d0 cX a5 bV bK cH x c8 dV;have aX:=bH.o.cellS aX iD;go_upto_region 8 with fail
  rw[<-eI.o];by_cases U:tN d=true
  .have cF:=V (c6.o (by unfold nE;rw[U];rfl))
   have cZ:=cB.o U;subst cZ;clear aX;obtain⟨⟨b5,b6,b7⟩,n⟩:=bO.o N bI.o;have fK:=n 0;have fM:=n 1;have fO:=n 2;clear n;go_wp2;obtain⟨aY,aZ,b0,B⟩:=jS (.int .i64 0) (.slice none 0 0) (.slice none 0 0) b5 b6 b7;have aB:=((dU.o.any (S:=λb=>a.heap.size<=b)).trans (B.mono (λb _ r=>H))).fresh;clear B
   generalize ((N.setCell ⟨a.heap.size,0,none⟩ (.int .i64 0)).setCell ⟨a.heap.size,1,none⟩ (.slice none 0 0)).setCell ⟨a.heap.size,2,none⟩ (.slice none 0 0)=WW at *
   exact bodyPost_ret (v:=.tuple #[.agg #[.int .i64 0,.slice none 0 0,.slice none 0 0],.int .i64 1]) (by simp[results,results122,go_sem,aY,aZ,b0]) rfl (.inl ⟨cF.o,rfl,aB⟩)
  have U:tN d=false:=by simpa using U
  have cZ:=dX.o U;subst cZ;by_cases aD:(d.length:Int)=h
  .have W:((d.length:Int) != h)=false:=by simpa using aD
   have e5:=V (e4.o (by unfold nE;rw[U];simpa using aD));have eD:=V (cO.o U);have z:=bP.o.c1;clear aD cO e4 c6 cB dX e0 e3 e1;go_wp2_with fail
   go_loopw [10] (λu aI=>∃i:Nat,i<=f.length/\u=.int .i64 i/\(∀(t:Nat) w,t<i->f[t]?=some w->uL (D,e) w=false)/\Cf N aI) (λu _=>f.length-(intOf u).toNat)
   .exact⟨0,H,rfl,λt w k=>absurd k (Ax1 _),cR⟩
   clear z aX W;obtain⟨i,hK,rfl,f1,d2⟩:=hrel;obtain⟨c5,a2,y⟩:=rZ f1 d2 (bP.o.same d2);have z:=y.o.c1;clear f1 d2;by_cases gH:i<f.length
   .have g6:=rO i f.length
    obtain⟨aH,eT,fB,c2,c3,b2,rfl,dD,a7,-,a6,-,-⟩:=y.o.rowsIn.1.get rfl (λ_=>rfl) gH;obtain⟨rd,X⟩:=aH;simp only at dD a7 a6;obtain⟨cM,e8,bM⟩:=rZ b2 a6 (And.intro dD a7);have e9:G (X.length<=1000000000):=V (eB.o _ (Az1 b2));clear b2 a6 dD a7;by_cases F:uL (D,e) (rd,X)=true
    .have fZ:G (idxV (uL (D,e)) f=i):=V (tJ cM.o F c5.o)
     have c4:G (addL (f,m) (D,e)=(f,m++[(i:Int)])):=V (by
      have d5:eN (D,e) (f,m).1=true:=jQ.2 (by
       have:(D,e)=(rd,X):=by simpa [uL] using F
       rw[this];exact Az1 cM.o)
      unfold addL;rw[d5,if_pos rfl];rw[show idxV (uL (D,e)) (f,m).1=(i:Int) from fZ.o])
     have hD:((i:Int) == (f.length:Int))=false:=sO;go_upto_region 11 with fail
     refine ws (λj=>Cf wr j) ?_;(iterate 2 (refine rq ?_));(refine rq ?_ (by intro _ j _ g;have u:=(y.o.same g).c1;go_simp;try with_reducible rfl));(iterate 4 (refine rq ?_));(refine rq ?_ (by intro _ j _ g;have u:=(y.o.same g).c1;go_simp;try with_reducible rfl));(iterate 2 (refine rq ?_));(refine rq ?_ (by intro _ j _ g;have dK:=g.cellS bM.o.1 iD;have W:=g.cellS bM.o.2 iD;go_simp;try with_reducible rfl));(refine rq ?_ (by intro _ j _ g;obtain⟨dK,W⟩:=bF.o j (a2.o.trans g);go_simp;try with_reducible rfl))
     refine xA rfl (Value.bool true )  164  ( #[.agg #[.int .i64 rd,.slice c2 X.length c3],.agg #[.int .i64 D,.slice l e.length o]]) (λj=>by go_simp) (λ_ j _ g=>?_) (λcV b1=>?_)
     .refine (dG rd D X e c2 l c3 o _ _ j (e8.o.same g) (aT.o.same (a2.o.trans g)) e9.o).mono ?_
      rintro r q ⟨rfl,s⟩;exact⟨by rw[ru,F],g.trans s⟩
     ((try go_simp);refine b1 _ ?_;clear b1 cV)
     (iterate 2 (refine rq ?_))
     refine zW ?_;intro q v;have a3:=V (a2.o.trans v);have O:=V (y.o.same v);clear v z;have z:=O.o.c1;have a1:=V (O.o.same ((FR q).alloc (.cells #[.int .i64 i] 3)));have c7:G (a.heap.size+1+1<=(q.alloc (.cells #[.int .i64 i] 3)).heap.size):=V a1.o.lt;have aV:G (∀aK∈[(i:Int)],intE.ok aK):=V (by intro aK A;rw[Ay]at A;subst A;exact⟨H,H⟩);have cK:G (m.length+1<=1000000000000):=V H;have eR:=O.o.c2;go_wp2_with (at_builtin;refine Elt.wpList_append2 intE rfl (.tmp 80) (.tmp 82) 25 25 rfl rfl (a.heap.size+1+1) (.slice Y m.length Z) m [(i:Int)] (.slice (some ⟨q.heap.size,0,none⟩) 1 1) rfl rfl a1.o.of c7.o (intE.srcLit 1 aV.o) aV.o cK.o ?_;intro h3 dO aM fT aO;obtain⟨b8,bB,b9,dB⟩:=aM.o.shape3;subst dB;obtain⟨⟨a7,dF⟩,Q,R⟩:=a1.o.addOf aM.o aO.o.1 (aO.o.2.imp id Or.inl);have aR:=V Q;have aP:=V (((J.refl (λb=>a.heap.size+1<=b) q).alloc (.cells #[.int .i64 i] 3)).trans R);clear Q R)
     have cS:G (TabSt uW rowR (a.heap.size+1) (dO.setCell ⟨a.heap.size+1,2,none⟩ (.slice b8 bB b9)) h (yJ (c.take (b+1))).1 (yJ (c.take (b+1))).2 (.slice (some ⟨eT,fB,none⟩) f.length L) (.slice b8 bB b9)):=V (by rw[eD.o,e7.o,c4.o];exact aR.o);have c9:=V (bI.o.trans (a3.o.any.trans aP.o));clear aR aP F;go_roundw
     .exact⟨b+1,_,_,H,GN,e5.o,cS.o,c9.o⟩
     simp[intOf];omega
    have F:uL (D,e) (rd,X)=false:=by simpa using F
    have fV:G (∀(t:Nat) w,t<i+1->f[t]?=some w->uL (D,e) w=false):=V (λt w d6 aF=>by
     by_cases d3:t=i
     .subst d3;rw[cM.o]at aF;obtain rfl:=Az2 aF;exact F
     exact c5.o t w H aF)
    go_upto_region 11 with fail
    refine ws (λj=>Cf wr j) ?_;(iterate 2 (refine rq ?_));(refine rq ?_ (by intro _ j _ g;have u:=(y.o.same g).c1;go_simp;try with_reducible rfl));(iterate 4 (refine rq ?_));(refine rq ?_ (by intro _ j _ g;have u:=(y.o.same g).c1;go_simp;try with_reducible rfl));(iterate 2 (refine rq ?_));(refine rq ?_ (by intro _ j _ g;have dK:=g.cellS bM.o.1 iD;have W:=g.cellS bM.o.2 iD;go_simp;try with_reducible rfl));(refine rq ?_ (by intro _ j _ g;obtain⟨dK,W⟩:=bF.o j (a2.o.trans g);go_simp;try with_reducible rfl))
    refine xA rfl (Value.bool false )  164  ( #[.agg #[.int .i64 rd,.slice c2 X.length c3],.agg #[.int .i64 D,.slice l e.length o]]) (λj=>by go_simp) (λ_ j _ g=>?_) (λcV b1=>?_)
    .refine (dG rd D X e c2 l c3 o _ _ j (e8.o.same g) (aT.o.same (a2.o.trans g)) e9.o).mono ?_
     rintro r q ⟨rfl,s⟩;exact⟨by rw[ru,F],g.trans s⟩
    ((try go_simp);refine b1 _ ?_;clear b1 cV)
    (iterate 2 (refine rq ?_))
    refine zW ?_;intro q v;have a3:=V (a2.o.trans v);have O:=V (y.o.same v);clear v z;have z:=O.o.c1;clear F;go_wp2;go_roundw
    .exact⟨i+1,H,GN,fV.o,a3.o⟩
    simp[intOf];omega
   obtain rfl:i=f.length:=H
   have g6:=rP f.length;have c4:G (addL (f,m) (D,e)=(f++[(D,e)],m++[(f.length:Int)])):=V (by
    have d5:¬eN (D,e) (f,m).1=true:=λr=>by
     obtain⟨t,d6,d3⟩:=Au2 (jQ.1 r);have C:=c5.o t _ d6 (Az4 d6);have gF:f[t]=(D,e):=d3;rw[gF]at C;simp[uL]at C
    unfold addL;rw[if_neg d5])
   go_upto_region 11 with fail
   refine ws (λj=>Cf wr j) ?_;(iterate 6 (refine rq ?_ (by intro _ j _ g;have u:=(y.o.same g).c1;go_simp;try with_reducible rfl)))
   iterate 8 (refine sq ?_)
   refine rq ?_;refine zW ?_;intro q v;have a3:=V (a2.o.trans v);have O:=V (y.o.same v);clear v z;have z:=O.o.c1;obtain⟨h7,h8⟩:=bF.o q a3.o;have cP:=V (O.o.same ((FR q).alloc (.cells #[.int .i64 D,.slice l e.length o] 236)));have g5:=V (cT.o.same (a3.o.trans ((FR q).alloc (.cells #[.int .i64 D,.slice l e.length o] 236))));obtain⟨eP,eZ,f0,-⟩:=cP.o.rows;have eK:=V eZ;have h9:=V f0;have e6:G (∀w∈[(D,l,e.length,o)],rowR.ok w):=V (by intro w aF;rw[Ay]at aF;subst aF;exact cT.o.2.1);have fX:G (a.heap.size+1+1<=(q.alloc (.cells #[.int .i64 D,.slice l e.length o] 236)).heap.size):=V cP.o.lt;have g2:G (eP.length+1<=1000000000000):=V H;clear eZ f0;go_upto_region 15 with (at_builtin;refine Elt.wpList_append2 rowR rfl (.tmp 74) (.tmp 76) 192 192 rfl rfl (a.heap.size+1+1) (.slice a0 f.length L) eP [(D,l,e.length,o)] (.slice (some ⟨q.heap.size,0,none⟩) 1 1) rfl rfl eK.o fX.o (rowR.srcLit 1 e6.o) e6.o g2.o ?_;intro hP h6 eM hA eO;obtain⟨fF,fI,fH,gR⟩:=eM.out.shape3;subst gR;obtain⟨⟨a7,dF⟩,Q,R⟩:=cP.o.addRow g5.o bT.o (λhB gD _=>(by rw[fS gD eK.o];exact eM.out)) eO.out.1 (eO.out.2.imp id Or.inl);have cD:=V Q;have dZ:=V (((J.refl (λb=>a.heap.size+1<=b) q).alloc (.cells #[.int .i64 D,.slice l e.length o] 236)).trans R);clear Q R)
   clear a7 dF h7 h8 z;obtain⟨c1,f8⟩:=rK (h6.setCell ⟨a.heap.size+1,1,none⟩ (.slice fF fI fH));rw[<-f8]at cD dZ ⊢;clear f8;have a1:=V (cD.o.same ((FR c1).alloc (.cells #[.int .i64 f.length] 3)));have c7:G (a.heap.size+1+1<=(c1.alloc (.cells #[.int .i64 f.length] 3)).heap.size):=V a1.o.lt;have aV:G (∀aK∈[(f.length:Int)],intE.ok aK):=V (by intro aK A;rw[Ay]at A;subst A;exact⟨H,H⟩);have cK:G (m.length+1<=1000000000000):=V H;have eR:=cD.o.c2;go_wp2_with (at_builtin;refine Elt.wpList_append2 intE rfl (.tmp 80) (.tmp 82) 25 25 rfl rfl (a.heap.size+1+1) (.slice Y m.length Z) m [(f.length:Int)] (.slice (some ⟨c1.heap.size,0,none⟩) 1 1) rfl rfl a1.o.of c7.o (intE.srcLit 1 aV.o) aV.o cK.o ?_;intro h3 dO aM fT aO;obtain⟨b8,bB,b9,dB⟩:=aM.o.shape3;subst dB;obtain⟨⟨a7,dF⟩,Q,R⟩:=a1.o.addOf aM.o aO.o.1 (aO.o.2.imp id Or.inl);have aR:=V Q;have aP:=V (((J.refl (λb=>a.heap.size+1<=b) c1).alloc (.cells #[.int .i64 f.length] 3)).trans R);clear Q R)
   have cS:G (TabSt uW rowR (a.heap.size+1) (dO.setCell ⟨a.heap.size+1,2,none⟩ (.slice b8 bB b9)) h (yJ (c.take (b+1))).1 (yJ (c.take (b+1))).2 (.slice fF fI fH) (.slice b8 bB b9)):=V (by rw[eD.o,e7.o,c4.o];exact aR.o);have c9:=V (bI.o.trans (a3.o.any.trans (dZ.o.trans aP.o)));clear aR aP;go_roundw
   .exact⟨b+1,_,_,H,GN,e5.o,cS.o,c9.o⟩
   simp[intOf];omega
  have W:((d.length:Int) != h)=true:=by simpa using aD
  have cF:=V (c6.o (by unfold nE;rw[U];simpa using aD));clear aD;obtain⟨⟨b5,b6,b7⟩,n⟩:=bO.o N bI.o;have fK:=n 0;have fM:=n 1;have fO:=n 2;clear n;go_wp2;obtain⟨aY,aZ,b0,B⟩:=jS (.int .i64 0) (.slice none 0 0) (.slice none 0 0) b5 b6 b7;have aB:=((dU.o.any (S:=λb=>a.heap.size<=b)).trans (B.mono (λb _ r=>H))).fresh;clear B
  generalize ((N.setCell ⟨a.heap.size,0,none⟩ (.int .i64 0)).setCell ⟨a.heap.size,1,none⟩ (.slice none 0 0)).setCell ⟨a.heap.size,2,none⟩ (.slice none 0 0)=WW at *
  exact bodyPost_ret (v:=.tuple #[.agg #[.int .i64 0,.slice none 0 0,.slice none 0 0],.int .i64 1]) (by simp[results,results122,go_sem,aY,aZ,b0]) rfl (.inl ⟨cF.o,rfl,aB⟩)
 obtain rfl:b=c.length:=H
 have g3:G (uQ h c=true):=V (by have:=cI.o;rwa [Ay7]at this);have P:G (TabSt uW rowR (a.heap.size+1) wr h (yJ c).1 (yJ c).2 K c0):=V (by have:=x.o;rwa [Ay7]at this);obtain⟨a0,h5,L,rfl⟩:∃a8 dH a9,K=.slice a8 dH a9:=(by obtain⟨e,C,_⟩:=P.o.rows;exact C.shape3);obtain⟨Y,h4,Z,rfl⟩:=P.o.of.shape3;obtain⟨-,-,rfl,rfl,d8,d9⟩:=P.o.final cR;obtain⟨⟨b5,b6,b7⟩,n⟩:=bO.o wr c8.o;have fK:=n 0;have fM:=n 1;have fO:=n 2;have aX:=P.o.c0;have z:=P.o.c1;have eR:=P.o.c2;have hH:a.heap.size+1<wr.heap.size:=P.o.lt;clear n x cI;go_wp2;obtain⟨aY,aZ,b0,B⟩:=jS (.int .i64 h) (.slice a0 (yJ c).1.length L) (.slice Y (yJ c).2.length Z) b5 b6 b7;obtain⟨aB,g7,-⟩:=P.o.final (B.mono (λb _ r=>H));have E:=(cA.o.any (S:=λb=>a.heap.size<=b)).trans (B.mono (λb _ r=>H));have eX:vW uW rowR (((wr.setCell ⟨a.heap.size,0,none⟩ (.int .i64 h)).setCell ⟨a.heap.size,1,none⟩ (.slice a0 (yJ c).1.length L)).setCell ⟨a.heap.size,2,none⟩ (.slice Y (yJ c).2.length Z)) a.heap.size (a0,(yJ c).1.length,L) (yJ c).1:=by
  obtain⟨e,W,gX,gZ⟩:=aB.lower (B':=a.heap.size) H;obtain⟨h0,hO,h1⟩:=W;exact⟨e,⟨h0,d8,h1⟩,gX,gZ⟩
 clear B aB
 generalize ((wr.setCell ⟨a.heap.size,0,none⟩ (.int .i64 h)).setCell ⟨a.heap.size,1,none⟩ (.slice a0 (yJ c).1.length L)).setCell ⟨a.heap.size,2,none⟩ (.slice Y (yJ c).2.length Z)=WW at *
 exact bodyPost_ret (v:=.tuple #[.agg #[.int .i64 h,.slice a0 (yJ c).1.length L,.slice Y (yJ c).2.length Z],.int .i64 0]) (by simp[results,results122,go_sem,aY,aZ,b0]) rfl (.inr ⟨g3.o,a0,Y,L,Z,rfl,eX,g7.lower H,d9,E.fresh⟩)
end Go.Proofs.YtgnpmceimpjheaaGreat
