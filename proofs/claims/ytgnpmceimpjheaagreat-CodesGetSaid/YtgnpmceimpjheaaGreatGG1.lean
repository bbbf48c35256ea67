/- A part of the proof: Base Bytes CodM List RowsL Nums TwinsI RowsE RowsA. -/
import Derived.Test.YtgnpmceimpjheaaGreatRows
import Derived.WalkKit
import Derived.WalkSpells
import Derived.WalkLawsBesides
import Derived.Deep.Quiet
import Derived.Maps.OwnSet
import Derived.Lib.Hide
import Derived.StillTailTactics
import Derived.ProofKit
import Derived.Deep.AppendSrc
import Derived.Deep.Upon
import Derived.Lib.AppendZerosOnto
import Derived.OwnWalk
import Derived.LoopTactic
import Derived.Deep.DeepCutAuto
import Derived.Deep.CutBlock
set_option maxRecDepth 100000
set_option maxHeartbeats 16000000
namespace Go.Proofs.YtgnpmceimpjheaaGreat
open Go.RowKit Go.Proofs.Tryz
def G (p:Prop):Prop:=p
theorem G.o{p:Prop}(h:G p):p:=h
theorem G.out{p:Prop}(h:G p):p:=h
theorem Az:type_of% @List.length_append:=@List.length_append
theorem Az0:type_of% @List.getElem?_eq_some_iff:=@List.getElem?_eq_some_iff
theorem Az2:type_of% @Option.some.inj:=@Option.some.inj
theorem Az1:type_of% @List.mem_of_getElem?:=@List.mem_of_getElem?
theorem Az3:type_of% @World.frozen?_setCell:=@World.frozen?_setCell
theorem Az4:type_of% @List.getElem?_eq_getElem:=@List.getElem?_eq_getElem
theorem Az7:type_of% @List.append_assoc:=@List.append_assoc
theorem Az5:type_of% @World.cell?_alloc_new:=@World.cell?_alloc_new
theorem Az6:type_of% @World.frozen?_alloc_new:=@World.frozen?_alloc_new
theorem Az9:type_of% @World.cell?_setCell_same:=@World.cell?_setCell_same
theorem Ay:type_of% @List.mem_singleton:=@List.mem_singleton
theorem Ay0:type_of% @World.cell?_setCell_other:=@World.cell?_setCell_other
theorem Ay4:type_of% @Exists.intro:=@Exists.intro
theorem Ay1:type_of% @Nat.le_refl:=@Nat.le_refl
theorem Az8:type_of% @World.block_lt_of_cell?:=@World.block_lt_of_cell?
theorem Ay5:type_of% @Int.toNat_natCast:=@Int.toNat_natCast
theorem Ay2:type_of% @Nat.le_trans:=@Nat.le_trans
theorem Ay6:type_of% @Bool.and_eq_true:=@Bool.and_eq_true
theorem Ay3:type_of% @List.take_add_one:=@List.take_add_one
theorem Ay8:type_of% @List.length_take:=@List.length_take
theorem Ay7:type_of% @List.take_length:=@List.take_length
theorem Ay9:type_of% @Nat.lt_of_lt_of_le:=@Nat.lt_of_lt_of_le
theorem Ax:type_of% @Nat.zero_add:=@Nat.zero_add
theorem Ax1:type_of% @Nat.not_lt_zero:=@Nat.not_lt_zero
theorem Ax0:type_of% @List.getElem?_append_left:=@List.getElem?_append_left
theorem Ax3:type_of% @Int.eq_ofNat_of_zero_le:=@Int.eq_ofNat_of_zero_le
theorem Ax2:type_of% @List.length_cons:=@List.length_cons
theorem Ax5:type_of% @List.mem_cons:=@List.mem_cons
theorem Ax6:type_of% @Nat.eq_zero_or_pos:=@Nat.eq_zero_or_pos
theorem Ax4:type_of% @List.length_map:=@List.length_map
theorem Ax7:type_of% @List.getElem?_append_right:=@List.getElem?_append_right
theorem Ax9:type_of% @Nat.zero_le:=@Nat.zero_le
theorem Aw2:type_of% @Bool.not_eq_true':=@Bool.not_eq_true'
theorem Aw:type_of% @Array.getElem?_toList:=@Array.getElem?_toList
theorem Aw0:type_of% @List.all_eq_true:=@List.all_eq_true
theorem Av0:type_of% @List.length_drop:=@List.length_drop
theorem Av:type_of% @List.nil_append:=@List.nil_append
theorem Aw1:type_of% @List.getElem?_of_mem:=@List.getElem?_of_mem
theorem Aw3:type_of% @Bool.false_and:=@Bool.false_and
theorem Aw8:type_of% @List.prefix_refl:=@List.prefix_refl
theorem Aw4:type_of% @List.any_eq_false:=@List.any_eq_false
theorem Aw5:type_of% @List.getD_eq_getElem?_getD:=@List.getD_eq_getElem?_getD
theorem Aw6:type_of% @List.length_nil:=@List.length_nil
theorem Aw7:type_of% @List.getElem?_set_self:=@List.getElem?_set_self
theorem Ax8:type_of% @List.take_of_length_le:=@List.take_of_length_le
theorem Aw9:type_of% @List.mem_append:=@List.mem_append
theorem Av2:type_of% @Bool.and_false:=@Bool.and_false
theorem Av3:type_of% @List.append_nil:=@List.append_nil
theorem Av1:type_of% @List.length_eq_zero_iff:=@List.length_eq_zero_iff
theorem Av4:type_of% @List.not_mem_nil:=@List.not_mem_nil
theorem Av5:type_of% @List.getElem?_set_ne:=@List.getElem?_set_ne
theorem Av8:type_of% @List.mem_of_mem_take:=@List.mem_of_mem_take
theorem Av7:type_of% @List.drop_eq_getElem_cons:=@List.drop_eq_getElem_cons
theorem Au0:type_of% @Nat.add_assoc:=@Nat.add_assoc
theorem Av9:type_of% @List.length_set:=@List.length_set
theorem Au:type_of% @List.mem_map:=@List.mem_map
theorem Au1:type_of% @Bool.true_and:=@Bool.true_and
theorem Av6:type_of% @List.length_replicate:=@List.length_replicate
theorem Au2:type_of% @List.getElem_of_mem:=@List.getElem_of_mem
theorem Au3:type_of% @List.length_take_le:=@List.length_take_le
theorem Au4:type_of% @Nat.sub_self:=@Nat.sub_self
theorem Au6:type_of% @Bool.false_ne_true:=@Bool.false_ne_true
theorem At0:type_of% @List.cons_append:=@List.cons_append
theorem Au9:type_of% @Bool.false_or:=@Bool.false_or
theorem Au7:type_of% @Bool.eq_iff_iff:=@Bool.eq_iff_iff
theorem Au8:type_of% @List.any_eq_true:=@List.any_eq_true
theorem At3:type_of% @Bool.or_eq_true:=@Bool.or_eq_true
theorem At1:type_of% @List.mem_range:=@List.mem_range
theorem Au5:type_of% @List.length_zip:=@List.length_zip
theorem At2:type_of% @List.mem_replicate:=@List.mem_replicate
theorem oM {p:Prop} (h:p:=by omega):p:=h
theorem kR {p:Prop} (h:p:=by kernel_rfl):p:=h
theorem sI {p:Prop} (h:p:=by simp):p:=h
theorem dE {p:Prop} (h:p:=by decide):p:=h
theorem sO {p:Prop} (h:p:=by simp;omega):p:=h
theorem iD {p:Prop} (h:p):p:=h
theorem iE {α:Sort _} {p:α→Prop} (a:α) (h:p a):p a:=h
theorem iF {α:Sort _} {β:α→Sort _} {p:∀ a,β a→Prop} (a:α) (b:β a) (h:p a b):p a b:=h
theorem jh {p:Prop} (h:p):G p:=h
theorem D {α:Sort _}{a:α}:a=a:=rfl
theorem V {p:Prop} (h:p):G p:=h
theorem H {p:Prop} (h:p:=by omega):p:=h
theorem M {p:Prop} (h:p:=by kernel_rfl):p:=h
theorem GN {p:Prop} (h:p:=by go_num):p:=h
theorem rK {α:Sort _} (a:α):∃x,x=a:=⟨_,D⟩
theorem rM {α:Sort _} (a:α):∃x,a=x:=⟨_,D⟩
theorem rO (m n:Nat) (h:m<n:=by omega):decide ((m:Int)<(n:Int))=true:=decide_eq_true (by omega)
theorem rP (n:Nat):decide ((n:Int)<(n:Int))=false:=decide_eq_false (by omega)
theorem rR (m n:Nat) (h:¬m<n:=by omega):decide ((m:Int)<(n:Int))=false:=decide_eq_false (by omega)
theorem rZ {a b c:Prop} (i:a)(j:b)(k:c):G a/\G b/\G c:=⟨V i,V j,V k⟩
theorem sB {a b c d:Prop} (i:a)(j:b)(k:c)(l:d):G a/\G b/\G c/\G d:=⟨V i,V j,V k,V l⟩
theorem sD {a b c d e:Prop} (i:a)(j:b)(k:c)(l:d)(m:e):G a/\G b/\G c/\G d/\G e:=⟨V i,V j,V k,V l,V m⟩
theorem sF {a b c d e f:Prop} (i:a)(j:b)(k:c)(l:d)(m:e)(n:f):G a/\G b/\G c/\G d/\G e/\G f:=⟨V i,V j,V k,V l,V m,V n⟩
theorem sH {a b c d e f g:Prop} (i:a)(j:b)(k:c)(l:d)(m:e)(n:f)(o:g):G a/\G b/\G c/\G d/\G e/\G f/\G g:=⟨V i,V j,V k,V l,V m,V n,V o⟩
theorem sK {a b c d e f g h:Prop} (i:a)(j:b)(k:c)(l:d)(m:e)(n:f)(o:g)(p:h):G a/\G b/\G c/\G d/\G e/\G f/\G g/\G h:=⟨V i,V j,V k,V l,V m,V n,V o,V p⟩
theorem rX {b:World}{a:Nat}{f g k l m n o p q r h i j:Value} (c:∀d e,([f,g,k,l,m,n,o,p,q,r,h,i,j]:List Value)[d]?=some e->b.cell? ⟨a,d,none⟩=some e):b.cell? ⟨a,0,none⟩=some f/\b.cell? ⟨a,1,none⟩=some g/\b.cell? ⟨a,2,none⟩=some k/\b.cell? ⟨a,3,none⟩=some l/\b.cell? ⟨a,4,none⟩=some m/\b.cell? ⟨a,5,none⟩=some n/\b.cell? ⟨a,6,none⟩=some o/\b.cell? ⟨a,7,none⟩=some p/\b.cell? ⟨a,8,none⟩=some q/\b.cell? ⟨a,9,none⟩=some r/\b.cell? ⟨a,10,none⟩=some h/\b.cell? ⟨a,11,none⟩=some i/\b.cell? ⟨a,12,none⟩=some j:=⟨c 0 _ D,c 1 _ D,c 2 _ D,c 3 _ D,c 4 _ D,c 5 _ D,c 6 _ D,c 7 _ D,c 8 _ D,c 9 _ D,c 10 _ D,c 11 _ D,c 12 _ D⟩
theorem mkfn:∀ (b:Fn) (first a:Array Value) (c:World),(Instr.makeFunc b first a).run prog c=.ok (.func b first a) c:=fun _ _ _ _=>rfl
structure J (S:Nat->Prop) (w w':World):Prop where
 os:w'.os=w.os
 tape:w'.tape=w.tape
 output:w'.output=w.output
 size:w.heap.size<=w'.heap.size
 block:∀k,k<w.heap.size->¬S k->w'.heap[k]?=w.heap[k]?
abbrev Cf:=J (λ_=>False)
theorem J.refl (S:Nat->Prop) (w:World):J S w w:=⟨D,D,D,Ay1 _,λ_ _ _=>rfl⟩
theorem cR {S:Nat→Prop} {w:World}:J S w w:=J.refl _ _
theorem FR (w:World):J (λ_=>False) w w:=J.refl _ _
theorem J.trans {c:Nat->Prop}{d e f:World}(a:J c d e) (b:J c e f):J c d f :=
 ⟨b.os.trans a.os,b.tape.trans a.tape,b.output.trans a.output,Ay2 a.size b.size,λi g h=>(b.block i (Ay9 g a.size) h).trans (a.block i g h)⟩
theorem J.mono {d T:Nat->Prop}{c f:World}(b:J d c f) (g:∀a,a<c.heap.size->d a->T a):J T c f :=
 ⟨b.os,b.tape,b.output,b.size,λa e i=>b.block a e (λh=>i (g a e h))⟩
theorem J.drew {S:Nat->Prop}{a w:World}(h:J S a w):J S a w.drew:=⟨h.os,h.tape,h.output,h.size,h.block⟩
theorem J.alloc {a:Nat->Prop}{b c:World}(d:J a b c) (f:Obj):J a b (c.alloc f) :=
 d.trans ⟨D,D,D,sI,λg e _=>Below.heap_alloc _ _ _ e⟩
theorem rT {S:Nat->Prop}{w:World}{o:Obj}:J S w (w.alloc o):=(J.refl _ _).alloc _
theorem J.setCell {S:Nat->Prop}{b e:World}(a:J S b e) {p:Addr}(h:b.heap.size<=p.block\/S p.block) (j:Value):J S b (e.setCell p j) :=
 ⟨a.os,a.tape,a.output,by simpa [World.setCell] using a.size,λi g d=>by
  rw[Below.heap_setCell _ _ _ _ (by rcases h with c|c;(omega);intro f;subst f;exact d c)]
  exact a.block i g d⟩
theorem J.grown {d:Nat->Prop}{e j k:World}{i:Option Nat}(b:J d e j) (c:j.grownBy k i) (m:∀a,i=some a->e.heap.size<=a\/d a):J d e k :=
 ⟨c.os.trans b.os,c.tape.trans b.tape,c.output.trans b.output,Ay2 b.size c.size,λa g h=>by
  rw[c.block a (Ay9 g b.size) (λl=>by rcases m a l.symm with f|f;(omega);exact h f)]
  exact b.block a g h⟩
theorem J.to_below {b c:World}(a:Cf b c):Below b.heap.size b c :=
 ⟨a.os,a.tape,a.output,a.size,λe d=>a.block e d iD⟩
theorem J.cell {c:Nat->Prop}{b d:World}(e:J c b d) {a:Addr}(f:a.block<b.heap.size) (g:¬c a.block):d.cell? a=b.cell? a:=World.cell?_of_block (e.block a.block f g)
theorem J.frozen {b:Nat->Prop}{a c:World}(d:J b a c) {p:Addr}(e:p.block<a.heap.size) (f:¬b p.block):c.frozen? p=a.frozen? p:=World.frozen?_of_block (d.block p.block e f)
theorem J.cellS {a:Nat->Prop}{c d:World}(e:J a c d) {p:Addr}{v:Value}(b:c.cell? p=some v) (f:¬a p.block):d.cell? p=some v:=by
 rw[e.cell (Az8 _ _ b) f];exact b
section
variable {P:Program}{ops:Array Oper}{md:Region.Mode}{Q:Exit->Act->World->Prop}
abbrev Cls:=Array Bool->World->Prop
def fw (P:Program) (b:Cls) (c:Nat) (d:Array Bool) (f:World) (e:Value):Result Next->Prop
 | .ok (.value j) a=>j=e/\b (d.setIfInBounds c true) a
 | .ok .skip a=>e=undef/\b (d.setIfInBounds c true) a
 | .ok (.enter i g) a=>a=f/\Calls P i g f (λh k=>h=.returned e/\b (d.setIfInBounds c true) k)
 | _=>False
def bu (P:Program) (ops:Array Oper) (md:Region.Mode) (c:Cls) (d:Nat) (f:Oper) (g:Value) (e:Act):Prop :=
 (Region.wanted f (yielded ops e.tmps)=true/\∀a b,d∈Region.ready md ops a->c a b->fw P c d a b g ((execOp e.eval f).run P b)) \/
 (Region.wanted f (yielded ops e.tmps)=false/\g=undef/\∀a b,d∈Region.ready md ops a->c a b->c (a.setIfInBounds d true) b)
def wpC (P:Program) (ops:Array Oper) (md:Region.Mode) (C:Cls) (L:Act->Prop):List Oper->Nat->Act->Prop
 | [],_,a=>L a
 | o :: rest,i,a=>∃v,bu P ops md C i o v a/\wpC P ops md C L rest (i+1) (a.put o.dst v)
def anyC (P:Program) (ops:Array Oper) (md:Region.Mode) (f:Cls) (c:Act->Prop):Nat->Array Bool->Act->Prop
 | 0,b,a=>Region.ready md ops b=[]/\c a
 | h+1,b,a=>(Region.ready md ops b=[]->c a) /\
  ∀d∈Region.ready md ops b,∃e g,ops[d]?=some e/\bu P ops md f d e g a/\anyC P ops md f c h (b.setIfInBounds d true) (a.put e.dst g)
theorem bu.of_same {d:Cls}{e:Nat}{a:Oper}{f:Value}{b c:Act}(i:bu P ops md d e a f b) (g:execOp c.eval a=execOp b.eval a)
  (h:Region.wanted a (yielded ops c.tmps)=Region.wanted a (yielded ops b.tmps)):bu P ops md d e a f c:=by
 unfold bu at *;rw[g,h];exact i
theorem ty {v:Cls}{z:Act->Prop}{b:Nat}{c:Oper}{k:Value}(y:ops[b]?=some c) (L:∀(a:Nat) (O:Oper) n m,ops[a]?=some O->O.op≠.select n m) :
  ∀(o:Nat) (f:Array Bool) (d:Act),
   (∀a p,ops[a]?=some p->a≠b->f.getD a true=false->(∀e∈p.after,Region.binds md e=true->e.on≠b)->c.apart ops p=true) ->
   b∈Region.ready md ops f->bu P ops md v b c k d ->
   anyC P ops md v z o (f.setIfInBounds b true) (d.put c.dst k)->anyC P ops md v z (o+1) f d:=by
 intro o
 induction o with
 | zero =>
  intro f d _ j t H;refine⟨λw=>(by rw[w]at j;cases j),λa r=>?_⟩;by_cases i:a=b
  .subst i;exact⟨c,k,y,t,H⟩
  .have:=ready_mono r i
   rw[H.1]at this;cases this
 | succ o a4 =>
  intro f d C j t H;refine⟨λw=>(by rw[w]at j;cases j),λa r=>?_⟩;by_cases i:a=b
  .subst i;exact⟨c,k,y,t,H⟩
  obtain⟨p,u,s,a3,R⟩:=H.2 a (ready_mono r i)
  obtain⟨F,g,K,S⟩:=mem_ready.1 r;obtain rfl:g=p:=(by rw[s]at K;exact (Az2 K).symm);have a2:∀e∈g.after,Region.binds md e=true->e.on≠b:=λe W U X=>by
   have h:=S e W U;have A:=(mem_ready.1 j).1;rw[X]at h;rcases Nat.lt_or_ge b f.size with x|x
   .simp[x]at A h;rw[A]at h;cases h
   simp[Array.getElem?_eq_none x]at h
  have T:=C a g s i F a2;obtain⟨h,Q,B⟩:=Oper.apart_spec T;refine⟨g,u,s,a3.of_same (execOp_put g (λn m=>L a g n m s) d c.dst k h).symm (wanted_put g d c.dst k h).symm,?_⟩;have Y:∀l q,ops[l]?=some q->l≠b->(f.setIfInBounds a true).getD l true=false ->
   (∀e∈q.after,Region.binds md e=true->e.on≠b)->c.apart ops q=true:=λl q Z a0 N a1=>by
   refine C l q Z a0 ?_ a1;by_cases E:a=l
   .subst E;exact F
   rw[getD_set_ne true E]at N;exact N
  refine a4 (f.setIfInBounds a true) _ Y (ready_mono j (Ne.symm i)) (t.of_same (execOp_put c (λn m=>L b c n m y) d g.dst u B) (wanted_put c d g.dst u B)) ?_;rw[Array.setIfInBounds_comm _ _ i,<-Act.put_comm d k u Q];exact R
theorem jo {C:Cls}{h:Act->Prop}(k:Region.noSelect ops=true):∀(a:List Oper) (b:Nat) (f:Array Bool) (d:Act),(∀c,a[c]?=ops[b+c]?) ->
  Region.lexFrom md ops a.length b f=true->wpC P ops md C h a b d->anyC P ops md C h a.length f d
 | [],_,_,_,_,e,g=>⟨by simpa [Region.lexFrom] using e,g⟩
 | q :: a,b,f,d,j,e,g=>by
  have i:ops[b]?=some q:=by simpa using (j 0).symm
  simp only[Ax2,Region.lexFrom,Ay6]at e;obtain⟨⟨o,n⟩,l⟩:=e;obtain⟨r,p,m⟩:=g;exact ty i (Region.noSelect_spec k) a.length f d (Region.free_spec i n) (by simpa using o) p
   (jo k a (b+1) _ _ (λc=>by have:=j (c+1);simpa [Au0,Nat.add_comm 1 c] using this) l m)
theorem nL {k:Cls}{L:Act->Prop}(g:∀a c b,Region.ready md ops a=[]->k a b->L c->Q .normal c b):∀(d:Nat) (a:Array Bool) (c:Act) (b:World),k a b ->
  anyC P ops md k L d a c->wpAny P md ops Q d a c b
 | 0,a,_,_,i,e=>⟨e.1,g _ _ _ e.1 i e.2⟩
 | d+1,a,c,b,i,e=>⟨λp=>g _ _ _ p i (e.1 p),λy m=>by
  obtain⟨q,C,w,o,j⟩:=e.2 y m;unfold wpOp;rw[w];show if Region.wanted q (yielded ops c.tmps)=true then _ else _
  rcases o with ⟨n,o⟩|⟨n,rfl,s⟩
  .rw[if_pos n]
   refine .inl ?_;have h:=o a b m i;unfold Oper.wp
   generalize (execOp c.eval q).run P b=r at *
   cases r with
   | ok z A =>
    cases z <;> simp only[fw]at h <;> simp only[Oper.upon]
    case value u =>
     obtain⟨rfl,l⟩:=h;exact nL g d _ _ _ l j
    case skip =>
     obtain⟨rfl,l⟩:=h;exact nL g d _ _ _ l j
    case enter f args =>
     obtain⟨rfl,t⟩:=h;exact t.mono λB E ⟨v,x⟩=>by subst v;exact nL g d _ _ _ x j
   | halt F A=>simp only[fw]at h
  rw[if_neg (by rw[n];exact Au6)]
  exact nL g d _ _ _ (s a b m i) j⟩
theorem jp {id:Nat}{a:List Oper}{e:Act}{i:World}(d:Cls) (k:P.follows .mixedOrders=true) (h:Region.lexB .any a.toArray=true)
  (j:d (Array.replicate a.length false) i.drew)
  (g:wpC P a.toArray .any d (λf=>∀b c,Region.ready .any a.toArray b=[]->d b c->Q .normal f c) a 0 e):(Code.region id a.toArray true).wp P Q e i:=by
 simp only[Region.lexB,Ay6]at h;refine wp_region_any k (nL (L:=λf=>∀b c,Region.ready .any a.toArray b=[]->d b c->Q .normal f c) (λb _ c l m g=>g b c l m) _ _ _ _ (by simpa using j) ?_);have:=jo (C:=d) (md:=.any) h.1 a 0 (Array.replicate a.toArray.size false) e sI (by simpa using h.2) g;simpa using this
theorem zW {C:Cls}{L:Act->Prop}{i:Nat}{a:Act}(h:L a):wpC P ops md C L [] i a:=h
theorem tz {b:Cls}{g:Act->Prop}{e:Oper}{rest:List Oper}{c:Nat}{a:Act}(k:Region.wanted e (yielded ops a.tmps)=false)
  (j:∀d h,c∈Region.ready md ops d->b d h->b (d.setIfInBounds c true) h)
  (i:∀f:Act->Prop,(∀a,wpC P ops md b g rest (c+1) a->f a)->f (a.put e.dst undef)):wpC P ops md b g (e :: rest) c a :=
 ⟨undef,.inr ⟨k,D,j⟩,i _ iE⟩
theorem jC {d:Cls}{i:Act->Prop}{f:Oper}{rest:List Oper}{e:Nat}{c:Act}(p:Region.wanted f (yielded ops c.tmps)=true)
  (m:∀a b,e∈Region.ready md ops a->d a b->d (a.setIfInBounds e true) b)
  (l:∀h:Act->Prop,(∀c,wpC P ops md d i rest (e+1) c->h c)->∃g,(∀a b,e∈Region.ready md ops a->d a b->(execOp c.eval f).run P b=.ok (.value g) b)/\h (c.put f.dst g)) :
  wpC P ops md d i (f :: rest) e c:=by
 obtain⟨g,o,n⟩:=l _ iE;exact⟨g,.inl ⟨p,λa b k j=>by rw[o a b k j];exact⟨D,m a b k j⟩⟩,n⟩
theorem rq {c:Cls}{h:Act->Prop}{f:Oper}{rest:List Oper}{d:Nat}{e i:Act}{g:Value}(n:wpC P ops md c h rest (d+1) i)
  (o:∀a b,d∈Region.ready md ops a->c a b->(execOp e.eval f).run P b=.ok (.value g) b:=by intro _ q _ j;go_simp;try with_reducible rfl)
  (m:e.put f.dst g=i:=by (try go_simp);try with_reducible rfl)
  (p:Region.wanted f (yielded ops e.tmps)=true:=by exact rfl) (j:∀a b,d∈Region.ready md ops a->c a b->c (a.setIfInBounds d true) b:=by exact λ_ _ _ k=>k):wpC P ops md c h (f :: rest) d e :=
 jC p j λ_ l=>⟨g,o,by rw[m];exact l _ n⟩
theorem rf {b g:World->Prop}{h:Act->Prop}{e:Oper}{rest:List Oper}{k:Nat}{c i:Act}{f:Value}(d:∀a,b a->g a) (o:wpC P ops md (λ_ a=>b a) h rest (k+1) i)
  (p:∀a,b a->g a->(execOp c.eval e).run P a=.ok (.value f) a:=by intro s r d;(repeat' (cases d;rename_i d));go_simp;try with_reducible rfl)
  (n:c.put e.dst f=i:=by (try go_simp);try with_reducible rfl)
  (q:Region.wanted e (yielded ops c.tmps)=true:=by exact rfl):wpC P ops md (λ_ a=>b a) h (e :: rest) k c :=
 jC q (λ_ _ _ l=>l) λ_ m=>⟨f,λ_ a _ j=>p a j (d a j),by rw[n];exact m _ o⟩
theorem sq {a:Cls}{f:Act->Prop}{e:Oper}{rest:List Oper}{b:Nat}{c g:Act}(m:wpC P ops md a f rest (b+1) g)
  (n:Region.wanted e (yielded ops c.tmps)=false:=by exact rfl) (l:c.put e.dst undef=g:=by (try go_simp);try with_reducible rfl)
  (j:∀d h,b∈Region.ready md ops d->a d h->a (d.setIfInBounds b true) h:=by exact λ_ _ _ i=>i):wpC P ops md a f (e :: rest) b c :=
 tz n j λ_ k=>by rw[l];exact k _ m
theorem xA {d:Cls}{i:Act->Prop}{f:Oper}{rest:List Oper}{e:Nat}{b:Act}(r:Region.wanted f (yielded ops b.tmps)=true) (g:Value) (k:FuncId) (j:Array Value)
  (q:∀a,(execOp b.eval f).run P a=.ok (.enter k j) a)
  (o:∀c a,e∈Region.ready md ops c->d c a->Calls P k j a (λl s=>l=.returned g/\d (c.setIfInBounds e true) s))
  (m:∀h:Act->Prop,(∀b,wpC P ops md d i rest (e+1) b->h b)->h (b.put f.dst g)):wpC P ops md d i (f :: rest) e b :=
 ⟨g,.inl ⟨r,λc a p n=>by rw[q a];exact⟨D,o c a p n⟩⟩,m _ iE⟩
def fx (l:List Oper):Bool:=l.zipIdx.all λx=>x.1.after.all λe=>!Region.binds .any e || decide (e.on<x.2)
theorem ua {b:List Oper}(i:fx b=true) {c:Array Bool}(o:c.size=b.length) (m:Region.ready .any b.toArray c=[]):∀a,a<b.length->c.getD a false=true:=by
 intro a
 induction a using Nat.strongRecOn with
 | _ a n =>
  intro g;cases d:c.getD a false
  .exfalso
   have l:c.getD a true=false:=by
    simp only[Array.getD_eq_getD_getElem?]at d ⊢;rw[Array.getElem?_eq_getElem H]at d ⊢;simpa using d
   have:a∈Region.ready .any b.toArray c:=by
    rw[mem_ready];refine⟨l,b[a],by simp[g],λe k j=>?_⟩;have h:=Aw0.1 i (b[a],a) (List.mem_iff_getElem.2 ⟨a,by simpa using g,sI⟩);have f:=Array.all_eq_true_iff_forall_mem.1 h e k;simp only[j,Bool.not_true,Au9,decide_eq_true_eq]at f;exact n e.on f H
   rw[m]at this;cases this
  .rfl
theorem ub {id:Nat}{b:List Oper}{c:Act}{d:World}(f:Cls) (t:P.follows .mixedOrders=true) (o:Region.lexB .any b.toArray=true) (s:fx b=true)
  (p:f (Array.replicate b.length false) d.drew)
  (g:wpC P b.toArray .any (λa d=>a.size=b.length/\f a d) (λm=>∀a k,(∀e,e<b.length->a.getD e false=true)->f a k->Q .normal m k) b 0 c):(Code.region id b.toArray true).wp P Q c d:=by
 refine jp (λa d=>a.size=b.length/\f a d) t o ⟨sI,p⟩ ?_;have x:∀(h:List Oper) (e:Nat) (c:Act) (i j:Act->Prop),(∀c,i c->j c)->wpC P b.toArray .any (λa d=>a.size=b.length/\f a d) i h e c->wpC P b.toArray .any (λa d=>a.size=b.length/\f a d) j h e c:=by
  intro h
  induction h with
  | nil=>intro e c i j l g;exact l c g
  | cons z h w =>
   intro e c i j l g;obtain⟨y,v,q⟩:=g;exact⟨y,v,w _ _ _ _ l q⟩
 exact x b 0 c _ _ (λm r a k u n=>r a k (ua s n.1 u) n.2) g
theorem zS {id:Nat}{c:List Oper}{a:Act}{b:World}(d:World->Prop) (r:P.follows .mixedOrders=true) (m:Region.lexB .any c.toArray=true)
  (n:d b.drew) (e:wpC P c.toArray .any (λ_ b=>d b) (λl=>∀j,d j->Q .normal l j) c 0 a):(Code.region id c.toArray true).wp P Q a b:=by
 refine jp (λ_ b=>d b) r m n ?_;have u:∀(f:List Oper) (i:Nat) (a:Act) (g h:Act->Prop),(∀a,g a->h a)->wpC P c.toArray .any (λ_ b=>d b) g f i a->wpC P c.toArray .any (λ_ b=>d b) h f i a:=by
  intro f
  induction f with
  | nil=>intro i a g h k e;exact k a e
  | cons w f t =>
   intro i a g h k e;obtain⟨v,s,o⟩:=e;exact⟨v,s,t _ _ _ _ k o⟩
 exact u c 0 a _ _ (λl p _ j _ q=>p j q) e
theorem ws {id:Nat}{a:List Oper}{d:Act}{b:World}{f:World}(c:World->Prop) (h:wpC P a.toArray .any (λ_ b=>c b) (λg=>∀e,c e->Q .normal g e) a 0 d) (j:c=(λm=>Cf f m):=by exact rfl) (l:f=b:=by exact rfl) (k:P.follows .mixedOrders=true:=by kernel_rfl) (i:Region.lexB .any a.toArray=true:=by kernel_rfl):(Code.region id a.toArray true).wp P Q d b:=by
 subst j l
 exact zS _ k i (J.refl _ _).drew h
end
theorem rF {P:Program}{Q:Exit->Act->World->Prop}{id:Nat}{a:List Oper}{d:Act}{b:World}(g:wpC P a.toArray .any (λ_ c=>Cf b c) (λf=>∀e,Cf b e->Q .normal f e) a 0 d)(i:P.follows .mixedOrders=true:=by kernel_rfl)(h:Region.lexB .any a.toArray=true:=by kernel_rfl):(Code.region id a.toArray true).wp P Q d b:=zS (λc=>Cf b c) i h (J.refl _ _).drew g
theorem rH {P:Program}{Q:Exit->Act->World->Prop}{id:Nat}{a:List Oper}{d:Act}{b:World}(g:wpC P a.toArray .any (λ_ c=>c=b.drew) (λf=>∀e,e=b.drew->Q .normal f e) a 0 d)(i:P.follows .mixedOrders=true:=by kernel_rfl)(h:Region.lexB .any a.toArray=true:=by kernel_rfl):(Code.region id a.toArray true).wp P Q d b:=zS (λc=>c=b.drew) i h D g
theorem rI {P:Program}{ops:Array Oper}{md:Region.Mode}{e:Act->Prop}{c:Oper}{rest:List Oper}{g:Nat}{b f:Act}{h:Value}{a:World}(k:wpC P ops md (λ_ d=>d=a) e rest (g+1) f)(l:(execOp b.eval c).run P a=.ok (.value h) a:=by go_simp;try with_reducible rfl)(j:b.put c.dst h=f:=by (try go_simp);try with_reducible rfl)(m:Region.wanted c (yielded ops b.tmps)=true:=by exact rfl):wpC P ops md (λ_ d=>d=a) e (c::rest) g b:=rq k (by intro _ n _ i;subst i;exact l) j m
end Go.Proofs.YtgnpmceimpjheaaGreat
namespace Go.Proofs.YtgnpmceimpjheaaGreat
open Go.RowKit Go.Proofs.Tryz
variable {a b c d e f g h i j k l m n o p q r:Nat}{w v u t s:World}{X Y W L T:List Int}{A B C E Z:Value}{x y z:Int}{N R:Bool}{F Q:Option Addr}{S P:Nat->Prop}
theorem own:ownKnob prog.godebug=none:=M
theorem jq:laidOutB prog=true:=M
abbrev Byte (a:Int):Prop:=0<=a/\a<=255
def zU (Z:List Int):List Value:=Z.map (Value.int .u8)
@[simp] theorem bytesV_length (Z:List Int):(zU Z).length=Z.length:=by simp[zU]
theorem mE (X Y:List Int):zU (X++Y)=zU X++zU Y:=by simp[zU]
theorem rW (c:(zU X)[a]?=some A):∃b,X[a]?=some b/\A=.int .u8 b:=by
 simp only[zU,List.getElem?_map,Option.map_eq_some_iff]at c;obtain⟨b,d,e⟩:=c;exact⟨b,d,e.symm⟩
theorem fy :∀a∈zU X,a.oneCell'=true:=λa b=>by
 obtain⟨c,_,rfl⟩:=Au.1 b
 rfl
structure BytesAt (w:World) (g o:Nat) (Z:List Int):Prop where
 c:∀k a,Z[k]?=some a->w.cell? ⟨g,o+k,none⟩=some (.int .u8 a)/\Byte a
 lt:Z≠[]->g<w.heap.size
theorem BytesAt.chg {S:Nat->Prop}{h w':World}(d:BytesAt h a b X) (f:J S h w') (j:X≠[]->¬S a):BytesAt w' a b X :=
 ⟨λg e c=>⟨f.cellS (d.c g e c).1 (j (by intro i;rw[i]at c;simp at c)),(d.c g e c).2⟩,λk=>Ay9 (d.lt k) f.size⟩
theorem BytesAt.get (d:BytesAt w a b X) {k:Nat}(e:k<X.length):∃c,X[k]?=some c/\w.cell? ⟨a,b+k,none⟩=some (.int .u8 c)/\0<=c/\c<=255 :=
 ⟨X[k],sI,(d.c k _ sI).1,(d.c k _ sI).2⟩
theorem BytesAt.byte (d:BytesAt w a b X):∀c∈X,Byte c:=λc e=>by
 obtain⟨f,g,rfl⟩:=Au2 e;exact (d.c f _ sI).2
structure Row (w:World) (g:Nat) (C:List Int):Prop where
 c:∀k a,C[k]?=some a->w.cell? ⟨g,k,none⟩=some (.int .u8 a)
 z:∀j,w.frozen? ⟨g,j,none⟩=false
 lt:g<w.heap.size
 byte:∀a∈C,Byte a
theorem Row.chg {S:Nat->Prop}{f w':World}(b:Row f a X) (c:J S f w') (d:¬S a):Row w' a X :=
 ⟨λi g h=>c.cellS (b.c i g h) d,λe=>(c.frozen (p:=⟨a,e,none⟩) b.lt d).trans (b.z e),Ay9 b.lt c.size,b.byte⟩
theorem Row.bytes (c:Row w a X) (h:Y <+: X):BytesAt w a 0 Y :=
 ⟨λf b d=>by
  obtain⟨g,rfl⟩:=h;have e:(Y++g)[f]?=some b:=by rw[Ax0 (Az0.1 d).1];exact d
  rw[Ax];exact⟨c.c f b e,c.byte b (Az1 e)⟩,λ_=>c.lt⟩
theorem Row.alloc (c:World) (a:List Int) (d:TypeId) (e:∀b∈a,Byte b):Row (c.alloc (.cells (zU a).toArray d)) c.heap.size a :=
 ⟨λh b f=>by
  rw[Az5];simp[zU,f],λg=>Az6 _ _ _ _,sI,e⟩
theorem J.fresh (b:J (λa=>w.heap.size<=a) w v):Cf w v:=b.mono (λa d c=>H)
theorem J.any {S:Nat->Prop}(b:Cf w v):J S w v:=b.mono (λ_ _ a=>a.elim)
theorem zA (w:World) (t j:Nat) (v:Value):J (·=t) w (w.setCell ⟨t,j,none⟩ v):=J.setCell (S:=(·=t)) (p:=⟨t,j,none⟩) (J.refl _ w) (.inr D) v
theorem rE (b:Nat):∀(f:List Value) (c:Nat) (a:World),J (·=b) a (a.setCells b c f)
 | [],_,a=>J.refl _ a
 | e :: d,c,a=>(zA a b c e).trans (rE b d (c+1) _)
theorem Row.put (f:Row w a X) (n:Y <+: X) (q:Y.length+W.length<=X.length) (k:∀c∈W,Byte c) :
  ∃h,Row (w.setCells a Y.length (zU W)) a h/\h.length=X.length/\Y++W <+: h:=by
 obtain⟨j,rfl⟩:=n;refine⟨Y++W++j.drop W.length,⟨λe c g=>?_,λb=>(World.frozen?_setCells _ _ _ _ _).trans (f.z b),Ay9 f.lt (rE _ _ _ _).size,λc d=>?_⟩,by simp only[Az,Av0]at *;omega,⟨_,D⟩⟩
 .have l:∀b,b<(zU W).length->(w.cell? ⟨a,Y.length+b,none⟩).isSome=true:=λb p=>by
   have m:Y.length+b<(Y++j).length:=(by simp only[bytesV_length,Az]at *;omega);rw[f.c (Y.length+b) _ (Az4 m)]
   rfl
  by_cases i:e<Y.length
  .rw[World.cell?_setCells_out a (zU W) Y.length w ⟨a,e,none⟩ (λ_ _=>.inl i)]
   refine f.c e c ?_;rw[Az7,Ax0 i]at g;rw[Ax0 i];exact g
  by_cases o:e<Y.length+W.length
  .obtain⟨b,rfl⟩:∃b,e=Y.length+b:=⟨e-Y.length,H⟩
   rw[World.cell?_setCells_in a (zU W) Y.length w l b sO];rw[Az7,Ax7 H,Nat.add_sub_cancel_left,Ax0 H]at g;have:=(Az0.1 g).2;simp[zU,this]
  rw[World.cell?_setCells_out a (zU W) Y.length w ⟨a,e,none⟩ (λ_ _=>.inr sO)]
  refine f.c e c ?_;rw[Ax7 sO,List.getElem?_drop]at g;rw[Ax7 H,<-g]
  congr 1
  simp
  omega
 simp only[Aw9]at d
 rcases d with (d|d)|d
 .exact f.byte c (by simp[d])
 .exact k c d
 exact f.byte c (by simp[List.mem_of_mem_drop d])
def Own (w:World) (B:Nat) (v:Value) (X:List Int):Prop :=
 (v=.slice none 0 0/\X=[])\/∃(g:Nat) (C:List Int),v=.slice (some ⟨g,0,none⟩) X.length C.length/\B<=g/\Row w g C/\X <+: C/\C.length<=maxLen
theorem Own.chg {S:Nat->Prop}{d w':World}(c:Own d a A X) (k:J S d w') (l:∀b,a<=b->b<d.heap.size->¬S b):Own w' a A X:=by
 rcases c with c|⟨b,g,h,e,f,i,j⟩
 .exact .inl c
 exact .inr ⟨b,g,h,e,f.chg k (l b e f.lt),i,j⟩
theorem Own.shape (d:Own w a A X):∃b c,A=.slice b X.length c:=by
 rcases d with ⟨rfl,rfl⟩|⟨g,f,e,_⟩
 .exact⟨_,_,D⟩
 exact⟨_,_,e⟩
theorem Own.lower {b B':Nat}(a:Own w b A X) (h:B'<=b):Own w B' A X:=by
 rcases a with a|⟨d,c,e,g,f⟩
 .exact .inl a
 exact .inr ⟨d,c,e,H,f⟩
theorem ao:(prog.info? 5).map (λi=>(i.zero,i.size,i.bytes))=some (some (.int .u8 0),1,1):=M
theorem tS {c:Nat}(d:BytesAt w a b X) (e:0<X.length->F=some ⟨a,b,none⟩):Src prog 1 45 (.slice F X.length c) X.length (zU X) w:=by
 cases F with
 | none =>
  have h:X=[]:=Av1.1 (by rcases Ax6 X.length with d|d;(exact d);cases e d)
  subst h;exact Src.ofNil w underlying45 c
 | some g =>
  refine Src.ofSlice w underlying45 g X.length c (zU X) sI (λj m i=>?_) fy;obtain⟨k,f,rfl⟩:=rW i;have l:=(Az0.1 f).1;obtain rfl:=Az2 (e H);rw[Addr.add_lit];exact (d.c j k f).1
theorem mQ (a:Nat):Builtin.zeroCells (Value.int .u8 0).cells a=(zU (List.replicate a 0)).toArray:=by
 apply Array.ext
 .simp[Builtin.zeroCells,Value.cells,zU]
 intro d b c
 simp[Builtin.zeroCells,Value.cells,zU,Nat.mod_one]
theorem cj (k:Value) (a:List Int) (m:Option Addr) (f:Nat) (y:k=.slice m a.length f) (v:∀d:World,Cf w d->(Builtin.firstCells 1 a.length k).run prog d=.ok (zU a).toArray d)
  (s:∀e∈a,Byte e) (j:TypeId) (l:Value) (b:List Int) (x:Src prog 1 j l b.length (zU b) w) (t:∀e∈b,Byte e) (o:f<a.length+b.length) (C:a.length+b.length<=1000000000000) (p:TypeId) :
  ∃(d:World) (c:List Int),(Builtin.append_ #[45,j] p #[k,l]).run prog w=.ok (.slice (some ⟨w.heap.size,0,none⟩) (a++b).length c.length) d/\Row d w.heap.size c/\a++b <+: c/\c.length<=maxLen/\Cf w d:=by
 obtain⟨A,u,z,n,q⟩:=info_parts ao;subst y;have r:=grownCap_ge w (a.length+b.length) f 5;have B:=grownCap_le_maxLen w (a.length+b.length) f 5 (by unfold maxLen;omega);have i:=run_append_grow_src (P:=prog) w 45 j p 5 A (.int .u8 0) underlying45 u z m a.length f (zU a) (by rw[n];exact v _ (J.refl _ _).drew) l b.length (zU b) (by rw[n];exact x) o H
  (by rw[q];exact growslice_fits o H)
 rw[mQ,<-mE,List.append_toArray,<-mE]at i;obtain⟨c,h⟩:=rK (a++b++List.replicate (grownCap w (a.length+b.length) f 5-(a.length+b.length)) 0);rw[<-h]at i;refine⟨w.drew.alloc (.cells (zU c).toArray 5),c,?_,Row.alloc w.drew _ _ (λe g=>?_),⟨_,h.symm⟩,?_,(J.refl _ _).drew.alloc _⟩
 all_goals subst h
 .rw[i]
  simp only[Az,Av6];rw[Nat.add_sub_cancel' r]
 .simp only[Aw9,At2]at g
  rcases g with (g|g)|⟨_,rfl⟩
  .exact s e g
  .exact t e g
  exact⟨H,H⟩
 simp only[Az,Av6]
 omega
theorem ej (f:Row w a X) (t:Y <+: X) (g:TypeId) (i:Value) (b:List Int) (x:Src prog 1 g i b.length (zU b) w) (p:∀n∈b,Byte n) (j:Y.length+b.length<=X.length) (m:TypeId) :
  ∃(h:World) (c:List Int),(Builtin.append_ #[45,g] m #[.slice (some ⟨a,0,none⟩) Y.length X.length,i]).run prog w=.ok (.slice (some ⟨a,0,none⟩) (Y++b).length c.length) h/\Row h a c/\c.length=X.length/\Y++b <+: c/\J (·=a) w h:=by
 obtain⟨l,r,z,e,y⟩:=info_parts ao;obtain⟨c,o,k,u⟩:=f.put t j p;have q:∀d,d<(zU b).length->(w.cell? ⟨a,0+Y.length * l.size+d,none⟩).isSome=true:=λd s=>by
  rw[e,Nat.mul_one,Ax,f.c (Y.length+d) _ (Az4 (by simp at s;omega))]
  rfl
 have v:=run_append_room_src (P:=prog) w 45 g m 5 l underlying45 r a 0 Y.length X.length i b.length (zU b) (by rw[e];exact x) j q (λd _=>f.z _);refine⟨_,c,?_,o,k,u,rE _ _ _ _⟩;rw[v,e,Nat.mul_one,Ax,k,Az]
theorem Row.first (d:Row w a X) (g:Y <+: X) (c:Nat) (b:World) (f:Cf w b):(Builtin.firstCells 1 Y.length (.slice (some ⟨a,0,none⟩) Y.length c)).run prog b=.ok (zU Y).toArray b:=by
 have e:=(d.bytes g).chg f iE;refine run_firstCells_some b 1 Y.length ⟨a,0,none⟩ Y.length c (zU Y) sI (λj l h=>?_);obtain⟨k,i,rfl⟩:=rW h;rw[Addr.add_lit];exact (e.c j k i).1
theorem Own.append {w:World}{B:Nat}{v:Value}{X:List Int}(a:Own w B v X) (t:B<=w.heap.size) (e:TypeId) (f:Value) (b:List Int) (l:Src prog 1 e f b.length (zU b) w) (p:∀n∈b,Byte n) (x:X.length+b.length<=1000000000000) (j:TypeId) :
  ∃r c,(Builtin.append_ #[45,e] j #[v,f]).run prog w=.ok r c/\Own c B r (X++b)/\J (λy=>B<=y) w c/\(r=.slice none 0 0->v=.slice none 0 0):=by
 rcases a with ⟨rfl,rfl⟩|⟨z,k,rfl,C,g,h,u⟩
 .rcases Ax6 b.length with s|s
  .have F:=Av1.1 s
   subst F;obtain⟨O,L,T,A,R⟩:=info_parts ao;refine⟨_,_,run_append_nothing (P:=prog) w 45 e j 5 O underlying45 L none 0 0 (Ay1 _) f (by rw[A];exact l),.inl ⟨D,D⟩,J.refl _ _,λ_=>rfl⟩
  obtain⟨c,k,i,g,h,u,d⟩:=cj (.slice none 0 0) [] none 0 D (λc _=>run_firstCells_none c 1 0 0 0) (λ_ a=>by cases a) e f b l p sO x j
  exact⟨_,_,i,.inr ⟨_,k,D,t,g,h,u⟩,d.mono (λ_ _ a=>a.elim),λa=>by cases a⟩
 by_cases N:X.length+b.length<=k.length
 .obtain⟨c,m,i,o,S,q,d⟩:=ej g h e f b l p N j
  exact⟨_,_,i,.inr ⟨z,m,D,C,o,q,H⟩,d.mono (λy _ Q=>H),λa=>by cases a⟩
 obtain⟨c,m,i,o,q,E,d⟩:=cj _ X _ k.length D (λc d=>g.first h _ c d) (λn K=>g.byte n (h.subset K)) e f b l p H x j
 exact⟨_,_,i,.inr ⟨_,m,D,t,o,q,E⟩,d.mono (λ_ _ a=>a.elim),λa=>by cases a⟩
theorem xJ {n:Array Oper}{rest:List Oper}{e:Oper}{b:Act}{m:Exit->Act->World->Prop}(v:e.guard=none) (k l:Operand) (g:TypeId)
  (y:e.op=.call { callee:=.builtin .append,args:=#[k,l],argTypes:=#[45,g] }) (f:Nat) (i:Value) (j a:List Int) (h:Value) (C:b.eval k=i) (B:b.eval l=h)
  (o:Own w f i j) (s:f<=w.heap.size) (A:Src prog 1 g h a.length (zU a) w) (u:∀b∈a,Byte b) (x:j.length+a.length<=1000000000000)
  (t:∀c d,G (Own d f c (j++a))->G (J (λE=>f<=E) w d)->G (c=.slice none 0 0->i=.slice none 0 0)->wpList prog n m rest (b.put e.dst c) d):wpList prog n m (e :: rest) b w:=by
 obtain⟨c,d,z,p,q,r⟩:=o.append s g h a A u x e.type;exact Lib.wpList_append_run w v k l 45 g y i h C B c d z (t c d (V p) (V q) (V r))
theorem jr {r:Array Oper}{rest:List Oper}{f:Oper}{b:Act}{o:Exit->Act->World->Prop}(A:f.guard=none) (m n:Operand) (j:TypeId)
  (F:f.op=.call { callee:=.builtin .append,args:=#[m,n],argTypes:=#[45,j] }) (e:Nat) (g h a:List Int) (l q i:Nat) (k:Value) (P:b.eval m=.slice (some ⟨e,0,none⟩) l i) (E:l=h.length) (C:q=a.length) (z:i=g.length) (O:b.eval n=k)
  (x:Row w e g) (K:h <+: g) (N:Src prog 1 j k a.length (zU a) w) (y:∀b∈a,Byte b) (B:h.length+a.length<=g.length)
  (v:∀c d,G (Row c e d)->G (d.length=i)->G (h++a <+: d)->G (J (·=e) w c)->wpList prog r o rest (b.put f.dst (.slice (some ⟨e,0,none⟩) (l+q) i)) c):wpList prog r o (f :: rest) b w:=by
 subst E z C;obtain⟨c,d,L,s,p,t,u⟩:=ej x K j k a N y B f.type;refine Lib.wpList_append_run w A m n 45 j F _ k P O _ c L ?_;rw[p,Az];exact v c d (V s) (V p) (V t) (V u)
theorem fz (a:Nat):madeCells (Value.int .u8 0).cells a=(zU (List.replicate a 0)).toArray:=by
 apply Array.ext
 .simp[madeCells,Value.cells,zU]
 intro d b c
 simp[madeCells,Value.cells,zU,Nat.mod_one]
theorem js {o:Array Oper}{rest:List Oper}{e:Oper}{b:Act}{i:Exit->Act->World->Prop}(x:e.guard=none) (n j:Operand) (A:e.op=Op.makeSlice 45 n j)
  (m l:IntKind) (g h:Int) (d a:Nat) (z:b.eval n=.int m g) (v:b.eval j=.int l h) (t:g=d) (u:h=a) (F:d<=a) (K:a<=1000000000000)
  (r:∀f,G (Row f w.heap.size (List.replicate a 0))->G (Cf w f)->wpList prog o i rest (b.put e.dst (.slice (some ⟨w.heap.size,0,none⟩) d a)) f):wpList prog o i (e :: rest) b w:=by
 subst t u;obtain⟨C,y,B,p,q⟩:=info_parts ao;have c:=run_make (P:=prog) w 45 5 C (.int .u8 0) underlying45 y B m l d a H H (by rw[q];omega) H;rw[p]at c;simp only[Ay5,Nat.mul_one]at c;rw[fz]at c;refine wpList_plain x λE s=>?_
 unfold Oper.wp;simp[execOp,A,z,v,c,Result.andThen]
 exact s _ _ (r _ (V (Row.alloc w _ _ (λb k=>by rw[At2]at k;rw[k.2];exact⟨H,H⟩))) (V (rT)))
theorem lit8 (b:World) (a:List Int) (c:TypeId) (e:∀d∈a,Byte d):BytesAt (b.alloc (.cells (zU a).toArray c)) b.heap.size 0 a:=(Row.alloc b a c e).bytes (Aw8 _)
theorem srcLit {w:World}{Y:List Int}{e:TypeId}(b:Nat) (c:∀a∈Y,Byte a):Src prog 1 45 (.slice (some ⟨w.heap.size,0,none⟩) Y.length b) Y.length (zU Y) (w.alloc (.cells (zU Y).toArray e)):=tS (lit8 w Y e c) (λ_=>rfl)
theorem uc (a:X <+: Y) (b:Y.length=X.length):Y=X:=(a.eq_of_length b.symm).symm
def sW:Ending:=.panicked [{ v:=.iface 129 (.agg #[]),recovered:=false }]
theorem bW (a:World):Calls prog 102 #[.bool true] a λb c=>b=.returned (.tuple #[])/\c=a:=by
 go_enter func102,ntmps102
 go_wp2;go_end0
 exact⟨D,D⟩
theorem kQ (a:World):Calls prog 102 #[.bool false] a λb c=>b=sW/\c=a:=by
 go_enter func102,ntmps102
 go_wp2;exact⟨D,D,D⟩
section
structure Elt (α:Type) where
 enc:α->List Value
 sz:Nat
 bs:Nat
 e:TypeId
 sl:TypeId
 z:α
 zv:Value
 ok:α->Prop
 pos:0<sz
 len:∀a,(enc a).length=sz
 one:∀a,∀u∈enc a,u.oneCell'=true
 zok:ok z
 info:(prog.info? e).map (λi=>(i.zero,i.size,i.bytes))=some (some zv,sz,bs)
 zc:zv.cells=(enc z).toArray
 und:prog.underlying sl=some (.slice e)
 bsl:bs<=100
variable {α:Type}(E:Elt α)
def Elt.encs (L:List α):List Value:=L.flatMap E.enc
theorem Elt.encs_length (a:List α):(E.encs a).length=a.length * E.sz:=by
 induction a with
 | nil=>simp[encs]
 | cons b a c =>
  have:(E.encs (b :: a))=E.enc b++E.encs a:=rfl;rw[this,Az,E.len,c,Ax2,Nat.succ_mul,Nat.add_comm]
theorem Elt.encs_append (X Y:List α):E.encs (X++Y)=E.encs X++E.encs Y:=by simp[encs]
theorem Elt.encs_one (b:List α):∀a∈E.encs b,a.oneCell'=true:=λa c=>by
 obtain⟨e,_,d⟩:=List.mem_flatMap.1 c;exact E.one e a d
theorem Elt.encs_at:∀{a:List α}{b:Nat}{f:α}{i:Nat}{u:Value},a[b]?=some f->(E.enc f)[i]?=some u->(E.encs a)[b * E.sz+i]?=some u
 | c :: a,0,f,i,u,e,d=>by
  simp at e
  subst e;have:(E.encs (c :: a))=E.enc c++E.encs a:=rfl;rw[this,Nat.zero_mul,Ax,Ax0 (Az0.1 d).1];exact d
 | c :: a,b+1,f,i,u,e,d=>by
  have:(E.encs (c :: a))=E.enc c++E.encs a:=rfl;rw[this,Nat.succ_mul,Ax7 (by rw[E.len];omega),E.len,show b * E.sz+E.sz+i-E.sz=b * E.sz+i by omega];exact encs_at (by simpa using e) d
structure Elt.At (w:World) (g o:Nat) (L:List α):Prop where
 c:∀j u,(E.encs L)[j]?=some u->w.cell? ⟨g,o+j,none⟩=some u
 ok:∀x∈L,E.ok x
 lt:L≠[]->g<w.heap.size
variable {E}
theorem Elt.At.chg {S:Nat->Prop}{g w':World}{b f:Nat}{a:List α}(c:E.At g b f a) (e:J S g w') (i:a≠[]->¬S b):E.At w' b f a :=
 ⟨λk l d=>e.cellS (c.c k l d) (i (by intro h;rw[h]at d;simp[encs]at d)),c.ok,λj=>Ay9 (c.lt j) e.size⟩
theorem Elt.At.get {d:World}{b c:Nat}{a:List α}(f:E.At d b c a) {k:Nat}{e:α}{i:Nat}{u:Value}(h:a[k]?=some e) (g:(E.enc e)[i]?=some u):d.cell? ⟨b,c+(k * E.sz+i),none⟩=some u :=
 f.c _ _ (E.encs_at h g)
theorem Elt.At.nil (E:Elt α) (w:World) (g o:Nat):E.At w g o []:=⟨λj u h=>by simp[encs]at h,(λ_ h=>by cases h),λh=>(h D).elim⟩
structure Elt.Row (E:Elt α) (w:World) (g:Nat) (C:List α):Prop where
 c:∀j u,(E.encs C)[j]?=some u->w.cell? ⟨g,j,none⟩=some u
 z:∀j,w.frozen? ⟨g,j,none⟩=false
 lt:g<w.heap.size
 ok:∀x∈C,E.ok x
theorem Elt.Row.chg {S:Nat->Prop}{g w':World}{b:Nat}{d:List α}(a:E.Row g b d) (c:J S g w') (e:¬S b):E.Row w' b d :=
 ⟨λj h i=>c.cellS (a.c j h i) e,λf=>(c.frozen (p:=⟨b,f,none⟩) a.lt e).trans (a.z f),Ay9 a.lt c.size,a.ok⟩
theorem Elt.Row.at' {i:World}{e:Nat}{c a:List α}(b:E.Row i e c) (g:a <+: c):E.At i e 0 a :=
 ⟨λh d f=>by
  obtain⟨j,rfl⟩:=g;have k:(E.encs (a++j))[h]?=some d:=by rw[E.encs_append,Ax0 (Az0.1 f).1];exact f
  rw[Ax];exact b.c h d k,λm l=>b.ok m (g.subset l),λ_=>b.lt⟩
theorem Elt.Row.alloc (c:World) (a:List α) (d:TypeId) (e:∀b∈a,E.ok b):E.Row (c.alloc (.cells (E.encs a).toArray d)) c.heap.size a :=
 ⟨λh b f=>by
  rw[Az5];simp[f],λg=>Az6 _ _ _ _,sI,e⟩
theorem Elt.Row.put {j:World}{d:Nat}{l a b:List α}(h:E.Row j d l) (x:a <+: l) (w:a.length+b.length<=l.length) (t:∀f∈b,E.ok f) :
  ∃o,E.Row (j.setCells d (a.length * E.sz) (E.encs b)) d o/\o.length=l.length/\a++b <+: o:=by
 obtain⟨m,rfl⟩:=x;have z:b.length<=m.length:=by simp only[Az]at w;omega
 obtain⟨k,n,rfl,s⟩:∃k n,m=k++n/\k.length=b.length:=⟨m.take b.length,m.drop b.length,(List.take_append_drop _ _).symm,by rw[Ay8];omega⟩;have p:(E.encs k).length=(E.encs b).length:=by rw[E.encs_length,E.encs_length,s]
 have q:(E.encs a).length=a.length * E.sz:=E.encs_length a;refine⟨a++b++n,⟨λe f i=>?_,λc=>(World.frozen?_setCells _ _ _ _ _).trans (h.z c),Ay9 h.lt (rE _ _ _ _).size,λf g=>?_⟩,by simp only[Az]at *;omega,⟨_,D⟩⟩
 .have u:∀c,c<(E.encs b).length->(j.cell? ⟨d,a.length * E.sz+c,none⟩).isSome=true:=λc A=>by
   have v:a.length * E.sz+c<(E.encs (a++(k++n))).length:=(by rw[E.encs_append,E.encs_append,Az,Az];omega);rw[h.c (a.length * E.sz+c) _ (Az4 v)]
   rfl
  rw[E.encs_append,E.encs_append]at i;by_cases r:e<a.length * E.sz
  .rw[World.cell?_setCells_out d (E.encs b) (a.length * E.sz) j ⟨d,e,none⟩ (λ_ _=>.inl r)]
   refine h.c e f ?_;rw[Az7,Ax0 H]at i;rw[E.encs_append,Ax0 H];exact i
  by_cases y:e<a.length * E.sz+(E.encs b).length
  .obtain⟨c,rfl⟩:∃c,e=a.length * E.sz+c:=⟨e-a.length * E.sz,H⟩
   rw[World.cell?_setCells_in d (E.encs b) (a.length * E.sz) j u c H];rw[Az7,Ax7 H,q,Nat.add_sub_cancel_left,Ax0 H]at i;have:=(Az0.1 i).2;simp[this]
  rw[World.cell?_setCells_out d (E.encs b) (a.length * E.sz) j ⟨d,e,none⟩ (λ_ _=>.inr (by show a.length * E.sz+(E.encs b).length<=e;omega))]
  refine h.c e f ?_;rw[Ax7 (by rw[Az];omega)]at i;rw[E.encs_append,E.encs_append,<-Az7,Ax7 (by rw[Az];omega),<-i,Az,Az,p]
 simp only[Aw9]at g
 rcases g with (g|g)|g
 .exact h.ok f (by simp[g])
 .exact t f g
 exact h.ok f (by simp[g])
def Elt.Own (E:Elt α) (w:World) (B:Nat) (v:Value) (X:List α):Prop :=
 (v=.slice none 0 0/\X=[])\/∃(g:Nat) (C:List α),v=.slice (some ⟨g,0,none⟩) X.length C.length/\B<=g/\E.Row w g C/\X <+: C/\C.length<=maxLen
theorem Elt.Own.chg {S:Nat->Prop}{d w':World}{b:Nat}{h:Value}{e:List α}(c:E.Own d b h e) (m:J S d w') (n:∀a,b<=a->a<d.heap.size->¬S a):E.Own w' b h e:=by
 rcases c with c|⟨a,i,j,f,g,k,l⟩
 .exact .inl c
 exact .inr ⟨a,i,j,f,g.chg m (n a f g.lt),k,l⟩
theorem Elt.Own.chgB {e:Nat->Prop}{h i:World}{d:Nat}{c:Value}{f:List α}(b:E.Own h d c f) (o:J e h i) (p:∀a,c.ownBlock=some a->¬e a):E.Own i d c f:=by
 rcases b with b|⟨a,j,g,k,l,m,n⟩
 .exact .inl b
 exact .inr ⟨a,j,g,k,l.chg o (p a (by rw[g];rfl)),m,n⟩
theorem Elt.Own.blk {d:World}{a:Nat}{c:Value}{e:List α}(h:E.Own d a c e) {g:Nat}(b:c.ownBlock=some g):a<=g/\g<d.heap.size:=by
 rcases h with ⟨rfl,_⟩|⟨f,k,rfl,i,j,_⟩
 .cases b
 obtain rfl:f=g:=by simpa [Value.ownBlock] using b
 exact⟨i,j.lt⟩
theorem Elt.Own.shape {h:World}{c:Nat}{b:Value}{a:List α}(f:E.Own h c b a):∃d e,b=.slice d a.length e:=by
 rcases f with ⟨rfl,rfl⟩|⟨j,i,g,_⟩
 .exact⟨_,_,D⟩
 exact⟨_,_,g⟩
theorem Elt.Own.shape3 {w:World}{B:Nat}{v:Value}{X:List α}(h:E.Own w B v X):∃a n c,v=.slice a n c:=by
 obtain⟨a,c,h⟩:=h.shape;exact⟨a,_,c,h⟩
theorem Elt.Own.lower {e:World}{b B':Nat}{d:Value}{c:List α}(a:E.Own e b d c) (k:B'<=b):E.Own e B' d c:=by
 rcases a with a|⟨g,f,h,j,i⟩
 .exact .inl a
 exact .inr ⟨g,f,h,H,i⟩
theorem Elt.Own.nil (w:World) (B:Nat):E.Own w B (.slice none 0 0) []:=.inl ⟨D,D⟩
theorem Elt.Own.at' {i:World}{d:Nat}{h:Value}{a:List α}(c:E.Own i d h a):∃e b f,h=.slice e a.length f/\a.length<=f/\E.At i b 0 a/\(0<a.length->e=some ⟨b,0,none⟩/\d<=b):=by
 rcases c with ⟨rfl,rfl⟩|⟨b,l,rfl,j,k,g,_⟩
 .exact⟨none,0,0,D,sI,.nil _ _ _ _,λc=>by simp at c⟩
 exact⟨_,b,_,D,g.length_le,k.at' g,λ_=>⟨D,j⟩⟩
theorem Elt.At.src {c:World}{g j:Nat}{a:List α}{d:Option Addr}{e:Nat}(b:E.At c g j a) (h:0<a.length->d=some ⟨g,j,none⟩):Src prog E.sz E.sl (.slice d a.length e) a.length (E.encs a) c:=by
 cases d with
 | none =>
  have f:a=[]:=Av1.1 (by rcases Ax6 a.length with b|b;(exact b);cases h b)
  subst f;exact Src.ofNil c E.und e
 | some k =>
  refine Src.ofSlice c E.und k a.length e (E.encs a) (E.encs_length a) (λl m i=>?_) (E.encs_one a);have f:0<a.length:=by
   cases a with
   | nil=>simp[encs]at i
   | cons n a=>simp
  obtain rfl:=Az2 (h f);rw[Addr.add_lit];exact b.c l m i
theorem Elt.encs_rep (c:α):∀(b a:Nat),(E.encs (List.replicate b c))[a]?=if a<b * E.sz then (E.enc c)[a % E.sz]? else none
 | 0,a=>by simp[encs]
 | b+1,a=>by
  have f:=E.pos;have:E.encs (List.replicate (b+1) c)=E.enc c++E.encs (List.replicate b c):=rfl;rw[this];by_cases d:a<E.sz
  .rw[Ax0 (by rw[E.len];exact d),if_pos (by rw[Nat.succ_mul];omega),Nat.mod_eq_of_lt d]
  rw[Ax7 (by rw[E.len];omega),E.len,encs_rep c b]
  rw[Nat.succ_mul,show a % E.sz=(a-E.sz) % E.sz from Nat.mod_eq_sub_mod H];by_cases e:a<b * E.sz+E.sz
  .rw[if_pos H,if_pos e]
  rw[if_neg H,if_neg e]
theorem Elt.zeroCellsE (b:Nat):Builtin.zeroCells E.zv.cells b=(E.encs (List.replicate b E.z)).toArray:=by
 have e:=E.pos
 apply Array.ext'
 apply List.ext_getElem?
 intro c;rw[E.zc,List.toList_toArray,encs_rep];simp only[Builtin.zeroCells,List.size_toArray,E.len];by_cases a:c<b * E.sz
 .rw[if_pos a]
  have d:=Nat.mod_lt c e;simp[a,E.len,d]
 rw[if_neg a]
 simp
 omega
theorem Elt.grow {c:World}(l:Value) (a:List α) (n:Option Addr) (g:Nat) (z:l=.slice n a.length g) (x:∀e:World,Cf c e->(Builtin.firstCells E.sz a.length l).run prog e=.ok (E.encs a).toArray e)
  (t:∀f∈a,E.ok f) (k:TypeId) (m:Value) (b:List α) (y:Src prog E.sz k m b.length (E.encs b) c) (u:∀f∈b,E.ok f) (p:g<a.length+b.length) (w:a.length+b.length<=1000000000000) (q:TypeId) :
  ∃(e:World) (d:List α),(Builtin.append_ #[E.sl,k] q #[l,m]).run prog c=.ok (.slice (some ⟨c.heap.size,0,none⟩) (a++b).length d.length) e/\E.Row e c.heap.size d/\a++b <+: d/\d.length<=maxLen/\Cf c e:=by
 obtain⟨B,v,A,o,r⟩:=info_parts E.info;subst z;have s:=grownCap_ge c (a.length+b.length) g E.e;have C:=grownCap_le_maxLen c (a.length+b.length) g E.e (by unfold maxLen;omega);have F:(a.length+b.length) * E.bs<=1000000000000 * 100:=Nat.mul_le_mul w E.bsl;have j:=run_append_grow_src (P:=prog) c E.sl k q E.e B E.zv E.und v A n a.length g (E.encs a) (by rw[o];exact x _ (J.refl _ _).drew) m b.length (E.encs b) (by rw[o];exact y) p H
  (by rw[r];exact growslice_fits p H)
 rw[zeroCellsE,<-E.encs_append,List.append_toArray,<-E.encs_append]at j;obtain⟨d,i⟩:=rK (a++b++List.replicate (grownCap c (a.length+b.length) g E.e-(a.length+b.length)) E.z);rw[<-i]at j;refine⟨c.drew.alloc (.cells (E.encs d).toArray E.e),d,?_,Elt.Row.alloc c.drew _ _ (λf h=>?_),⟨_,i.symm⟩,?_,(J.refl _ _).drew.alloc _⟩
 all_goals subst i
 .rw[j]
  simp only[Az,Av6];rw[Nat.add_sub_cancel' s]
 .simp only[Aw9,At2]at h
  rcases h with (h|h)|⟨_,rfl⟩
  .exact t f h
  .exact u f h
  exact E.zok
 simp only[Az,Av6]
 omega
theorem Elt.room {f:World}{d:Nat}{c b:List α}(i:E.Row f d c) (w:b <+: c) (k:TypeId) (m:Value) (a:List α) (z:Src prog E.sz k m a.length (E.encs a) f) (s:∀q∈a,E.ok q) (j:b.length+a.length<=c.length) (p:TypeId) :
  ∃(l:World) (e:List α),(Builtin.append_ #[E.sl,k] p #[.slice (some ⟨d,0,none⟩) b.length c.length,m]).run prog f=.ok (.slice (some ⟨d,0,none⟩) (b++a).length e.length) l/\E.Row l d e/\e.length=c.length/\b++a <+: e/\J (·=d) f l:=by
 obtain⟨o,u,C,h,A⟩:=info_parts E.info;obtain⟨e,r,n,x⟩:=i.put w j s;have B:b.length * E.sz+a.length * E.sz<=c.length * E.sz:=by rw[<-Nat.add_mul];exact Nat.mul_le_mul_right _ j
 have t:∀g,g<(E.encs a).length->(f.cell? ⟨d,0+b.length * o.size+g,none⟩).isSome=true:=λg v=>by
  rw[h,Ax,i.c (b.length * E.sz+g) _ (Az4 (by rw[E.encs_length]at v ⊢;omega))]
  rfl
 have y:=run_append_room_src (P:=prog) f E.sl k p E.e o E.und u d 0 b.length c.length m a.length (E.encs a) (by rw[h];exact z) j t (λg _=>i.z _);refine⟨_,e,?_,r,n,x,rE _ _ _ _⟩;rw[y,h,Ax,n,Az]
theorem Elt.Row.first {f:World}{c:Nat}{d a:List α}(g:E.Row f c d) (j:a <+: d) (e:Nat) (b:World) (i:Cf f b):(Builtin.firstCells E.sz a.length (.slice (some ⟨c,0,none⟩) a.length e)).run prog b=.ok (E.encs a).toArray b:=by
 have h:=(g.at' j).chg i iE;refine run_firstCells_some b E.sz a.length ⟨c,0,none⟩ a.length e (E.encs a) (E.encs_length a) (λl m k=>?_);rw[Addr.add_lit];exact h.c l m k
theorem Elt.Own.append {w:World}{B:Nat}{v:Value}{X:List α}(d:E.Own w B v X) (x:B<=w.heap.size) (e:TypeId) (f:Value) (b:List α) (n:Src prog E.sz e f b.length (E.encs b) w) (r:∀p∈b,E.ok p) (z:X.length+b.length<=1000000000000) (k:TypeId) :
  ∃l a,(Builtin.append_ #[E.sl,e] k #[v,f]).run prog w=.ok l a/\E.Own a B l (X++b)/\J (λj=>B<=j) w a/\(J (λj=>v.ownBlock=some j) w a/\(l.ownBlock=v.ownBlock\/l.ownBlock=some w.heap.size))/\(l=.slice none 0 0->v=.slice none 0 0):=by
 rcases d with ⟨rfl,rfl⟩|⟨A,m,rfl,F,g,h,y⟩
 .rcases Ax6 b.length with u|u
  .have L:=Av1.1 u
   subst L;obtain⟨R,O,U,C,S⟩:=info_parts E.info;refine⟨_,_,run_append_nothing (P:=prog) w E.sl e k E.e R E.und O none 0 0 (Ay1 _) f (by rw[C];exact n),.inl ⟨D,D⟩,J.refl _ _,⟨J.refl _ _,.inl D⟩,λ_=>rfl⟩
  obtain⟨a,m,i,g,h,y,c⟩:=Elt.grow (E:=E) (.slice none 0 0) [] none 0 D (λa _=>run_firstCells_none a E.sz 0 0 0) (λ_ d=>by cases d) e f b n r sO z k
  exact⟨_,_,i,.inr ⟨_,m,D,x,g,h,y⟩,c.any,⟨c.any,.inr D⟩,λd=>by cases d⟩
 by_cases Q:X.length+b.length<=m.length
 .obtain⟨a,o,i,q,T,s,c⟩:=Elt.room g h e f b n r Q k
  exact⟨_,_,i,.inr ⟨A,o,D,F,q,s,H⟩,c.mono (λj _ t=>H),⟨c.mono (λj _ t=>by subst t;rfl),.inl D⟩,λd=>by cases d⟩
 obtain⟨a,o,i,q,s,K,c⟩:=Elt.grow (E:=E) _ X _ m.length D (λa c=>g.first h _ a c) (λp N=>g.ok p (h.subset N)) e f b n r H z k
 exact⟨_,_,i,.inr ⟨_,o,D,x,q,s,K⟩,c.any,⟨c.any,.inr D⟩,λd=>by cases d⟩
theorem Elt.wpList_append (E:Elt α) {o:Array Oper}{rest:List Oper}{f:Oper}{b:Act}{d:World}{n:Exit->Act->World->Prop}(x:f.guard=none) (l m:Operand) (p h:TypeId) (C:p=E.sl)
  (z:f.op=.call { callee:=.builtin .append,args:=#[l,m],argTypes:=#[p,h] }) (g:Nat) (j:Value) (k a:List α) (i:Value) (K:b.eval l=j) (F:b.eval m=i)
  (q:E.Own d g j k) (u:g<=d.heap.size) (B:Src prog E.sz h i a.length (E.encs a) d) (w:∀b∈a,E.ok b) (y:k.length+a.length<=1000000000000)
  (v:∀c e,G (E.Own e g c (k++a))->G (J (λL=>g<=L) d e)->G (c=.slice none 0 0->j=.slice none 0 0)->wpList prog o n rest (b.put f.dst c) e):wpList prog o n (f :: rest) b d:=by
 subst C;obtain⟨c,e,A,r,s,_,t⟩:=q.append u h i a B w y f.type;exact Lib.wpList_append_run d x l m E.sl h z j i K F c e A (v c e (V r) (V s) (V t))
theorem Elt.wpList_append2 (E:Elt α) {p:Array Oper}{rest:List Oper}{f:Oper}{e:Act}{a:World}{o:Exit->Act->World->Prop}(y:f.guard=none) (m n:Operand) (q i:TypeId) (F:q=E.sl)
  (A:f.op=.call { callee:=.builtin .append,args:=#[m,n],argTypes:=#[q,i] }) (h:Nat) (g:Value) (k d:List α) (j:Value) (L:e.eval m=g) (K:e.eval n=j)
  (r:E.Own a h g k) (v:h<=a.heap.size) (C:Src prog E.sz i j d.length (E.encs d) a) (x:∀e∈d,E.ok e) (z:k.length+d.length<=1000000000000)
  (w:∀b c,G (E.Own c h b (k++d))->G (J (λl=>h<=l) a c)->G (J (λl=>g.ownBlock=some l) a c/\(b.ownBlock=g.ownBlock\/b.ownBlock=some a.heap.size))->wpList prog p o rest (e.put f.dst b) c):wpList prog p o (f :: rest) e a:=by
 subst F;obtain⟨b,c,B,s,t,u,N⟩:=r.append v i j d C x z f.type;exact Lib.wpList_append_run a y m n E.sl i A g j L K b c B (w b c (V s) (V t) (V u))
theorem Elt.lit (E:Elt α) (a:World) (Y:List α) (e:TypeId) (c:∀b∈Y,E.ok b):E.At (a.alloc (.cells (E.encs Y).toArray e)) a.heap.size 0 Y:=(Elt.Row.alloc a Y e c).at' (Aw8 _)
theorem Elt.srcLit (E:Elt α) {w:World}{Y:List α}{e:TypeId}(b:Nat) (c:∀a∈Y,E.ok a):Src prog E.sz E.sl (.slice (some ⟨w.heap.size,0,none⟩) Y.length b) Y.length (E.encs Y) (w.alloc (.cells (E.encs Y).toArray e)):=(E.lit w Y e c).src (λ_=>rfl)
theorem Elt.madeCellsE (b:Nat):madeCells E.zv.cells (b * E.sz)=(E.encs (List.replicate b E.z)).toArray:=by
 have e:=E.pos
 apply Array.ext'
 apply List.ext_getElem?
 intro c;rw[E.zc,List.toList_toArray,encs_rep];by_cases a:c<b * E.sz
 .rw[if_pos a]
  have d:=Nat.mod_lt c e;simp[madeCells,a,E.len,d]
 rw[if_neg a]
 simp[madeCells]
 omega
theorem Elt.wpList_make (E:Elt α) {q:Array Oper}{rest:List Oper}{f:Oper}{c:Act}{b:World}{j:Exit->Act->World->Prop}(z:f.guard=none) (p k:Operand) (r:TypeId) (K:r=E.sl) (F:f.op=Op.makeSlice r p k)
  (o n:IntKind) (h i:Int) (e a:Nat) (B:c.eval p=.int o h) (y:c.eval k=.int n i) (w:h=e) (x:i=a) (Q:e<=a) (C:a<=1000000000000)
  (u:∀g,G (E.Row g b.heap.size (List.replicate a E.z))->G (Cf b g)->wpList prog q j rest (c.put f.dst (.slice (some ⟨b.heap.size,0,none⟩) e a)) g):wpList prog q j (f :: rest) c b:=by
 subst w x K;obtain⟨m,A,L,s,t⟩:=info_parts E.info;have O:m.bytes * a<=100 * 1000000000000:=Nat.mul_le_mul (by rw[t];exact E.bsl) C;have d:=run_make (P:=prog) b E.sl E.e m E.zv E.und A L o n e a H H (by rw[<-Int.natCast_mul];omega) H;rw[s]at d;simp only[Ay5]at d;rw[madeCellsE]at d;refine wpList_plain z λN v=>?_
 unfold Oper.wp;simp[execOp,F,B,y,d,Result.andThen]
 exact v _ _ (u _ (V (Elt.Row.alloc b _ _ (λc l=>by rw[At2]at l;rw[l.2];exact E.zok))) (V (rT)))
end
end Go.Proofs.YtgnpmceimpjheaaGreat
namespace Go.Proofs.YtgnpmceimpjheaaGreat
abbrev RowD:=Int×List (Int×Int)
abbrev TabD:=Int×List RowD×List Int
abbrev kE (n:Int):Prop:=-1<=n/\n<=16777215
def bv (L:List Int) (b:Int):Prop:=(L=[]/\b=-1)\/(b∈L/\∀n∈L,L.count n<L.count b\/(L.count n=L.count b/\b<=n))
theorem bv.unique {L:List Int}{a b:Int}(e:bv L a) (g:bv L b):a=b:=by
 rcases e with ⟨rfl,rfl⟩|⟨c,f⟩ <;> rcases g with ⟨h,rfl⟩|⟨d,i⟩
 .rfl
 .cases d
 .subst h;cases c
 have:=f b d
 have:=i a c;omega
def mG (L:List Int) (b n:Int):Bool:=decide (L.count b<L.count n\/(L.count n=L.count b/\n<b))
def xL (L:List Int):Int:=L.foldl (λb n=>if mG L b n then n else b) (L.headD (-1))
theorem ga (c:List Int):∀(M:List Int) (b:Int),b∈c->(∀a∈M,a∈c) ->
  (M.foldl (λb a=>if mG c b a then a else b) b)∈c/\mG c (M.foldl (λb a=>if mG c b a then a else b) b) b=false/\∀a∈M,mG c (M.foldl (λb a=>if mG c b a then a else b) b) a=false
 | [],b,k,_=>⟨k,by simp[mG],λa e=>by cases e⟩
 | f :: M,b,k,j=>by
  rw[List.foldl_cons];by_cases e:mG c b f=true
  .rw[if_pos e]
   obtain⟨g,h,i⟩:=ga c M f (j f sI) (λa d=>j a (by simp[d]));refine⟨g,?_,λa d=>?_⟩
   .generalize M.foldl (λb a=>if mG c b a then a else b) f=r at *
    simp only[mG,decide_eq_false_iff_not,decide_eq_true_eq]at *;omega
   rcases Ax5.1 d with rfl|d
   .exact h
   exact i a d
  rw[if_neg e]
  obtain⟨g,h,i⟩:=ga c M b k (λa d=>j a (by simp[d]));refine⟨g,h,λa d=>?_⟩;rcases Ax5.1 d with rfl|d
  .generalize M.foldl (λb a=>if mG c b a then a else b) b=r at *
   simp only[mG,decide_eq_false_iff_not,decide_eq_true_eq]at *;omega
  exact i a d
theorem pY (a:List Int):bv a (xL a):=by
 cases a with
 | nil=>exact .inl ⟨D,D⟩
 | cons b a =>
  obtain⟨f,_,g⟩:=ga (b :: a) (b :: a) b sI (λc e=>e);refine .inr ⟨f,λc h=>?_⟩;have d:mG (b :: a) (xL (b :: a)) c=false:=g c h
  generalize xL (b :: a)=r at d ⊢
  simp only[mG,decide_eq_false_iff_not]at d;omega
def zN (b:Int):Nat->List Int->List (Int×Int)
 | _,[]=>[]
 | k,n :: l=>if n=b then zN b (k+1) l else ((k:Int),n) :: zN b (k+1) l
theorem cW (d:Int):∀(b c:List Int) (a:Nat),zN d a (b++c)=zN d a b++zN d (a+b.length) c
 | [],c,a=>by simp[zN]
 | f :: b,c,a=>by
  have e:=cW d b c (a+1);rw[show a+1+b.length=a+(f :: b).length by simp;omega]at e;simp only[At0,zN,e]
  split <;> simp
theorem jt (b:Int) (X:List Int) (n:Int) (k:Nat):zN b k (X++[n])=if n=b then zN b k X else zN b k X++[(((k+X.length:Nat):Int),n)]:=by
 rw[cW];simp only[zN]
 split <;> simp
theorem pN (b:Int):∀(a:List Int) (c:Nat),(zN b c a).length+a.count b=a.length
 | [],c=>rfl
 | e :: a,c=>by
  have f:=pN b a (c+1);simp only[zN,List.count_cons];by_cases d:e=b
  .subst d;simp;omega
  rw[if_neg d,if_neg (by simpa using d)];simp;omega
theorem tG (b:Int) (X:List Int) (k:Nat):(zN b k X).length<=X.length:=by have:=pN b X k;omega
theorem gE (c:Int):∀(b:List Int) (d:Nat) (a:Int),a≠c->((zN c d b).map (·.2)).count a=b.count a
 | [],d,a,_=>rfl
 | h :: b,d,a,f=>by
  have g:=gE c b (d+1) a f;simp only[zN,List.count_cons];by_cases e:h=c
  .subst e;rw[if_pos D,g,if_neg (by simpa using Ne.symm f)];simp
  rw[if_neg e,List.map_cons,List.count_cons,g]
def rowL (L:List Int):RowD:=(xL L,zN (xL L) 0 L)
def af (r:RowD) (i:Int):Int:=match r.2.find? (λc=>c.1 == i) with
 | some c=>c.2
 | none=>r.1
theorem ju (e:Int):∀(f:List Int) (c a:Nat),(zN e c f).find? (λj=>j.1 == ((a:Nat):Int))=if a<c then none else match f[a-c]? with
  | some i=>if i=e then none else some (((a:Nat):Int),i)
  | none=>none
 | [],c,a=>by simp[zN]
 | g :: f,c,a=>by
  have d:=ju e f (c+1) a;simp only[zN];by_cases h:a<c
  .rw[if_pos h]
   rw[if_pos H]at d;by_cases b:g=e
   .rw[if_pos b];exact d
   rw[if_neg b,List.find?_cons_of_neg sO];exact d
  rw[if_neg h]
  by_cases k:a=c
  .subst k
   rw[if_pos H]at d;simp only[Au4,List.getElem?_cons_zero];by_cases b:g=e
   .rw[if_pos b,if_pos b];exact d
   rw[if_neg b,if_neg b,List.find?_cons_of_pos sI]
  rw[if_neg H]at d
  rw[show a-c=a-(c+1)+1 by omega,List.getElem?_cons_succ];by_cases b:g=e
  .rw[if_pos b];exact d
  rw[if_neg b,List.find?_cons_of_neg sO];exact d
theorem jv (a:List Int) (d:Nat) (c:Int) (e:a[d]?=some c):af (rowL a) d=c:=by
 unfold af rowL;simp only;rw[ju,if_neg H];simp only[Nat.sub_zero,e];by_cases b:c=xL a
 .rw[if_pos b,b]
 rw[if_neg b]
def yS (b c:Int):Int->List (Int×Int)->Bool
 | _,[]=>true
 | e,a :: d=>decide (e<a.1) && decide (a.1<b) && decide (kE a.2) && !decide (a.2=c) && yS b c a.1 d
def uC (b:Nat):RowD->Bool
 | (c,a)=>if b=0 then decide (c=-1) && decide (a=[])
  else yS b c (-1) a && (a.map (·.2)).all (λd=>decide (((a.map (·.2)).count d:Int)<(b:Int)-a.length\/(((a.map (·.2)).count d:Int)=(b:Int)-a.length/\c<=d))) && decide (kE c) && decide (0<(b:Int)-a.length)
theorem gc (e:Int):∀(b:List Int) (a:Nat) (c:Int),c<a->(∀d∈b,kE d)->yS ((a+b.length:Nat):Int) e c (zN e a b)=true
 | [],a,c,_,_=>rfl
 | j :: b,a,c,k,h=>by
  have i:=gc e b (a+1);simp only[zN];rw[show a+1+b.length=a+(j :: b).length by simp;omega]at i;by_cases f:j=e
  .rw[if_pos f]
   exact i c H (λd g=>h d (by simp[g]))
  rw[if_neg f]
  simp only[yS,Ay6,decide_eq_true_eq,Aw2,decide_eq_false_iff_not];have l:=h j sI;refine⟨⟨⟨⟨k,sO⟩,l⟩,f⟩,i a H (λd g=>h d (by simp[g]))⟩
theorem jw (a:List Int) (j:∀n∈a,kE n):uC a.length (rowL a)=true:=by
 show uC a.length (xL a,zN (xL a) 0 a)=true;simp only[uC];by_cases d:a.length=0
 .rw[if_pos d]
  have:=Av1.1 d;subst this
  rfl
 rw[if_neg d]
 have e:=pY a;rcases e with ⟨rfl,_⟩|⟨i,e⟩
 .simp at d
 have o:=pN (xL a) a 0
 have p:0<a.count (xL a):=List.count_pos_iff.2 i;simp only[Ay6,decide_eq_true_eq,Aw0];refine⟨⟨⟨?_,λn l=>?_⟩,j _ i⟩,H⟩
 .have:=gc (xL a) a 0 (-1) H j
  rwa [Ax]at this
 obtain⟨g,c,rfl⟩:=Au.1 l
 have m:g.2≠xL a/\g.2∈a:=by
  clear o l
  generalize xL a=b at *
  generalize 0=k at *
  clear j e d p i
  induction a generalizing k with
  | nil=>simp[zN]at c
  | cons q a f =>
   simp only[zN]at c;by_cases h:q=b
   .rw[if_pos h]at c
    exact⟨(f _ c).1,by simp[(f _ c).2]⟩
   rw[if_neg h]at c
   rcases Ax5.1 c with rfl|c
   .exact⟨h,sI⟩
   exact⟨(f _ c).1,by simp[(f _ c).2]⟩
 rw[gE _ _ _ _ m.1];have:=e g.2 m.2;omega
def ac (c:Nat) (b:RowD):List Int:=b.2.foldl (λd a=>d.set a.1.toNat a.2) (List.replicate c b.1)
def rQ (a:Int):Nat->List (Int×Int)->Nat->List Int
 | 0,_,_=>[]
 | d+1,f,b=>match f with
  | c :: e=>if c.1=b then c.2 :: rQ a d e (b+1) else a :: rQ a d (c :: e) (b+1)
  | []=>a :: rQ a d [] (b+1)
theorem jE (b:Int):∀(a:Nat) (d:List (Int×Int)) (c:Nat),(rQ b a d c).length=a
 | 0,_,_=>rfl
 | a+1,[],c=>by simp[rQ,jE b a]
 | a+1,e :: f,c=>by
  simp only[rQ]
  split <;> simp[jE b a]
theorem jx (d:Int):∀(m k:Nat),rQ d m [] k=List.replicate m d
 | 0,_=>rfl
 | m+1,k=>by simp[rQ,jx d m,List.replicate_succ]
theorem kJ (c:Int) (d:Int):∀(b:Nat) (h:List (Int×Int)) (a:Nat),d=((a+b:Nat):Int)->yS d c ((a:Int)-1) h=true->zN c a (rQ c b h a)=h
 | 0,[],a,_,_=>rfl
 | 0,g :: j,a,m,e=>by
  simp only[yS,Ay6,decide_eq_true_eq]at e;omega
 | b+1,[],a,m,_=>by
  have f:=kJ c d b [] (a+1) H D;simp[rQ,zN,f]
 | b+1,g :: j,a,m,e=>by
  simp only[rQ];have q:=e;simp only[yS,Ay6,decide_eq_true_eq,Aw2,decide_eq_false_iff_not]at e;obtain⟨⟨⟨⟨p,n⟩,o⟩,k⟩,l⟩:=e;by_cases i:g.1=a
  .rw[if_pos i]
   have f:=kJ c d b j (a+1) H (by rw[show (((a+1:Nat):Int)-1)=g.1 by omega];exact l);simp only[zN];rw[if_neg k,f,<-i]
  rw[if_neg i]
  have f:=kJ c d b (g :: j) (a+1) H (by
   simp only[yS,Ay6,decide_eq_true_eq,Aw2,decide_eq_false_iff_not];exact⟨⟨⟨⟨H,n⟩,o⟩,k⟩,l⟩)
  simp only[zN];rw[if_pos trivial,f]
theorem jU (d:Int) (h:Int) (f:kE d):∀(e:Nat) (k:List (Int×Int)) (b:Nat) (g:Int),yS h d g k=true->∀c∈rQ d e k b,kE c
 | 0,_,_,_,_,c,a=>by simp[rQ]at a
 | e+1,[],b,g,_,c,a=>by
  simp only[rQ,Ax5]at a;rcases a with rfl|a
  .exact f
  .exact jU d h f e [] (b+1) g D c a
 | e+1,j :: m,b,g,i,c,a=>by
  have n:=i;simp only[yS,Ay6,decide_eq_true_eq,Aw2,decide_eq_false_iff_not]at i;simp only[rQ]at a;by_cases l:j.1=b
  .rw[if_pos l]at a
   rcases Ax5.1 a with rfl|a
   .exact i.1.1.2
   exact jU d h f e m (b+1) j.1 i.2 c a
  rw[if_neg l]at a
  rcases Ax5.1 a with rfl|a
  .exact f
  exact jU d h f e (j :: m) (b+1) g n c a
theorem cC (c g:Int):∀(e:Nat) (h:List (Int×Int)) (d:Nat) (a:List Int),a.length=d->g=((d+e:Nat):Int)->yS g c ((d:Int)-1) h=true ->
  h.foldl (λr b=>r.set b.1.toNat b.2) (a++List.replicate e c)=a++rQ c e h d
 | 0,[],d,a,_,_,_=>by simp[rQ]
 | 0,b :: i,d,a,_,q,f=>by
  simp only[yS,Ay6,decide_eq_true_eq]at f;omega
 | e+1,[],d,a,_,_,_=>by rw[jx];rfl
 | e+1,b :: i,d,a,k,q,f=>by
  have t:=f;simp only[yS,Ay6,decide_eq_true_eq,Aw2,decide_eq_false_iff_not]at f;obtain⟨⟨⟨⟨s,n⟩,o⟩,p⟩,j⟩:=f;simp only[rQ];by_cases l:b.1=d
  .rw[if_pos l,List.foldl_cons]
   have m:(a++List.replicate (e+1) c).set b.1.toNat b.2=(a++[b.2])++List.replicate e c:=by
    rw[show b.1.toNat=a.length by omega,List.set_append_right _ _ (Ay1 _),Au4,List.replicate_succ,List.set_cons_zero];simp
   rw[m,cC c g e i (d+1) (a++[b.2]) (by simp[k]) H (by rw[show (((d+1:Nat):Int)-1)=b.1 by omega];exact j)];simp
  rw[if_neg l,List.replicate_succ,show a++c :: List.replicate e c=(a++[c])++List.replicate e c by simp]
  rw[cC c g e (b :: i) (d+1) (a++[c]) (by simp[k]) H (by
   simp only[yS,Ay6,decide_eq_true_eq,Aw2,decide_eq_false_iff_not];exact⟨⟨⟨⟨H,n⟩,o⟩,p⟩,j⟩)]
  simp
theorem di {a:Nat}{h:RowD}(g:uC a h=true):(∀e∈h.2,0<=e.1/\e.1<a)/\(∀d∈ac a h,kE d)/\(ac a h).length=a/\rowL (ac a h)=h:=by
 obtain⟨b,c⟩:=h;simp only[uC]at g;by_cases l:a=0
 .rw[if_pos l]at g
  simp only[Ay6,decide_eq_true_eq]at g;obtain⟨rfl,rfl⟩:=g;subst l;refine⟨(λe f=>by cases f),?_,D,D⟩;intro d i;cases i
 rw[if_neg l]at g
 simp only[Ay6,decide_eq_true_eq,Aw0]at g;obtain⟨⟨⟨k,r⟩,s⟩,C⟩:=g;have w:ac a (b,c)=rQ b a c 0:=by
  have:=cC b a a c 0 [] D sI (by simpa using k);simpa [ac] using this
 have f:=kJ b a a c 0 sI (by simpa using k);have q:=jE b a c 0;have t:=pN b (rQ b a c 0) 0;rw[f,q]at t;have v:∀d,d≠b->(c.map (·.2)).count d=(rQ b a c 0).count d:=λd i=>by
  have:=gE b (rQ b a c 0) 0 d i;rwa [f]at this
 have y:bv (rQ b a c 0) b:=by
  refine .inr ⟨List.count_pos_iff.1 H,λd i=>?_⟩;by_cases p:d=b
  .subst p;omega
  have o:=v d p
  have x:d∈c.map (·.2):=List.count_pos_iff.1 (by rw[o];exact List.count_pos_iff.2 i);have:=r d x;rw[o]at this;omega
 have z:xL (rQ b a c 0)=b:=(pY _).unique y;rw[w];refine⟨λe u=>?_,jU b a s a c 0 (-1) k,q,?_⟩
 .have:∀(j:List (Int×Int)) (n:Int),-1<=n->yS a b n j=true->∀e∈j,0<=e.1/\e.1<a:=by
   intro j
   induction j with
   | nil=>intro _ _ _ e f;cases f
   | cons B j A =>
    intro n E m e f;simp only[yS,Ay6,decide_eq_true_eq]at m;rcases Ax5.1 f with rfl|f
    .exact⟨H,m.1.1.1.2⟩
    exact A B.1 H m.2 e f
  exact this c (-1) H k e u
 unfold rowL
 rw[z,f]
theorem ek {a:Nat}{c:RowD}:uC a c=true↔(∀b∈c.2,0<=b.1/\b.1<a)/\(∀k∈ac a c,kE k)/\rowL (ac a c)=c:=by
 refine⟨λf=>⟨(di f).1,(di f).2.1,(di f).2.2.2⟩,λ⟨_,g,h⟩=>?_⟩;have i:(ac a c).length=a:=by
  have:∀(e:List (Int×Int)) (d:List Int),(e.foldl (λl b=>l.set b.1.toNat b.2) d).length=d.length:=by
   intro e
   induction e with
   | nil=>intro d;rfl
   | cons b e j=>intro d;rw[List.foldl_cons,j,Av9]
  unfold ac;rw[this,Av6]
 have:=jw _ g;rwa [i,h]at this
end Go.Proofs.YtgnpmceimpjheaaGreat
namespace Go.Proofs.YtgnpmceimpjheaaGreat.I
open Go.RowKit Go.Proofs.Tryz
abbrev Byte (a:Int):Prop:=-9223372036854775808<=a/\a<=9223372036854775807
def zU (Z:List Int):List Value:=Z.map (Value.int .i64)
@[simp] theorem bytesV_length (Z:List Int):(zU Z).length=Z.length:=by simp[zU]
theorem mE (X Y:List Int):zU (X++Y)=zU X++zU Y:=by simp[zU]
theorem rW {b:List Int}{d:Nat}{e:Value}(c:(zU b)[d]?=some e):∃a,b[d]?=some a/\e=.int .i64 a:=by
 simp only[zU,List.getElem?_map,Option.map_eq_some_iff]at c;obtain⟨a,f,g⟩:=c;exact⟨a,f,g.symm⟩
theorem fy {b:List Int}:∀a∈zU b,a.oneCell'=true:=λa c=>by
 obtain⟨d,_,rfl⟩:=Au.1 c
 rfl
structure BytesAt (w:World) (g o:Nat) (Z:List Int):Prop where
 c:∀k a,Z[k]?=some a->w.cell? ⟨g,o+k,none⟩=some (.int .i64 a)/\Byte a
 lt:Z≠[]->g<w.heap.size
theorem BytesAt.chg {S:Nat->Prop}{i w':World}{c h:Nat}{b:List Int}(d:BytesAt i c h b) (f:J S i w') (k:b≠[]->¬S c):BytesAt w' c h b :=
 ⟨λg e a=>⟨f.cellS (d.c g e a).1 (k (by intro j;rw[j]at a;simp at a)),(d.c g e a).2⟩,λl=>Ay9 (d.lt l) f.size⟩
theorem BytesAt.get {f:World}{c e:Nat}{a:List Int}(d:BytesAt f c e a) {k:Nat}(g:k<a.length):∃b,a[k]?=some b/\f.cell? ⟨c,e+k,none⟩=some (.int .i64 b)/\-9223372036854775808<=b/\b<=9223372036854775807 :=
 ⟨a[k],sI,(d.c k _ sI).1,(d.c k _ sI).2⟩
theorem BytesAt.byte {h:World}{c g:Nat}{a:List Int}(d:BytesAt h c g a):∀b∈a,Byte b:=λb e=>by
 obtain⟨f,i,rfl⟩:=Au2 e;exact (d.c f _ sI).2
structure Row (w:World) (g:Nat) (C:List Int):Prop where
 c:∀k a,C[k]?=some a->w.cell? ⟨g,k,none⟩=some (.int .i64 a)
 z:∀j,w.frozen? ⟨g,j,none⟩=false
 lt:g<w.heap.size
 byte:∀a∈C,Byte a
theorem Row.chg {S:Nat->Prop}{g w':World}{b:Nat}{d:List Int}(a:Row g b d) (c:J S g w') (e:¬S b):Row w' b d :=
 ⟨λj h i=>c.cellS (a.c j h i) e,λf=>(c.frozen (p:=⟨b,f,none⟩) a.lt e).trans (a.z f),Ay9 a.lt c.size,a.byte⟩
theorem Row.bytes {i:World}{e:Nat}{d a:List Int}(c:Row i e d) (k:a <+: d):BytesAt i e 0 a :=
 ⟨λh b f=>by
  obtain⟨j,rfl⟩:=k;have g:(a++j)[h]?=some b:=by rw[Ax0 (Az0.1 f).1];exact f
  rw[Ax];exact⟨c.c h b g,c.byte b (Az1 g)⟩,λ_=>c.lt⟩
theorem Row.alloc (c:World) (a:List Int) (d:TypeId) (e:∀b∈a,Byte b):Row (c.alloc (.cells (zU a).toArray d)) c.heap.size a :=
 ⟨λh b f=>by
  rw[Az5];simp[zU,f],λg=>Az6 _ _ _ _,sI,e⟩
theorem Row.put {j:World}{d:Nat}{k a b:List Int}(h:Row j d k) (r:a <+: k) (u:a.length+b.length<=k.length) (o:∀e∈b,Byte e) :
  ∃l,Row (j.setCells d a.length (zU b)) d l/\l.length=k.length/\a++b <+: l:=by
 obtain⟨n,rfl⟩:=r;refine⟨a++b++n.drop b.length,⟨λg e i=>?_,λc=>(World.frozen?_setCells _ _ _ _ _).trans (h.z c),Ay9 h.lt (rE _ _ _ _).size,λe f=>?_⟩,by simp only[Az,Av0]at *;omega,⟨_,D⟩⟩
 .have p:∀c,c<(zU b).length->(j.cell? ⟨d,a.length+c,none⟩).isSome=true:=λc t=>by
   have q:a.length+c<(a++n).length:=(by simp only[bytesV_length,Az]at *;omega);rw[h.c (a.length+c) _ (Az4 q)]
   rfl
  by_cases m:g<a.length
  .rw[World.cell?_setCells_out d (zU b) a.length j ⟨d,g,none⟩ (λ_ _=>.inl m)]
   refine h.c g e ?_;rw[Az7,Ax0 m]at i;rw[Ax0 m];exact i
  by_cases s:g<a.length+b.length
  .obtain⟨c,rfl⟩:∃c,g=a.length+c:=⟨g-a.length,H⟩
   rw[World.cell?_setCells_in d (zU b) a.length j p c sO];rw[Az7,Ax7 H,Nat.add_sub_cancel_left,Ax0 H]at i;have:=(Az0.1 i).2;simp[zU,this]
  rw[World.cell?_setCells_out d (zU b) a.length j ⟨d,g,none⟩ (λ_ _=>.inr sO)]
  refine h.c g e ?_;rw[Ax7 sO,List.getElem?_drop]at i;rw[Ax7 H,<-i]
  congr 1
  simp
  omega
 simp only[Aw9]at f
 rcases f with (f|f)|f
 .exact h.byte e (by simp[f])
 .exact o e f
 exact h.byte e (by simp[List.mem_of_mem_drop f])
def Own (w:World) (B:Nat) (v:Value) (X:List Int):Prop :=
 (v=.slice none 0 0/\X=[])\/∃(g:Nat) (C:List Int),v=.slice (some ⟨g,0,none⟩) X.length C.length/\B<=g/\Row w g C/\X <+: C/\C.length<=maxLen
theorem Own.shape {h:World}{c:Nat}{b:Value}{a:List Int}(f:Own h c b a):∃d e,b=.slice d a.length e:=by
 rcases f with ⟨rfl,rfl⟩|⟨j,i,g,_⟩
 .exact⟨_,_,D⟩
 exact⟨_,_,g⟩
theorem ao:(prog.info? 3).map (λi=>(i.zero,i.size,i.bytes))=some (some (.int .i64 0),1,8):=M
theorem tS {d:World}{f i:Nat}{a:List Int}{e:Option Addr}{c:Nat}(b:BytesAt d f i a) (g:0<a.length->e=some ⟨f,i,none⟩):Src prog 1 25 (.slice e a.length c) a.length (zU a) d:=by
 cases e with
 | none =>
  have k:a=[]:=Av1.1 (by rcases Ax6 a.length with b|b;(exact b);cases g b)
  subst k;exact Src.ofNil d underlying25 c
 | some j =>
  refine Src.ofSlice d underlying25 j a.length c (zU a) sI (λm p l=>?_) fy;obtain⟨n,h,rfl⟩:=rW l;have o:=(Az0.1 h).1;obtain rfl:=Az2 (g H);rw[Addr.add_lit];exact (b.c m n h).1
theorem mQ (a:Nat):Builtin.zeroCells (Value.int .i64 0).cells a=(zU (List.replicate a 0)).toArray:=by
 apply Array.ext
 .simp[Builtin.zeroCells,Value.cells,zU]
 intro d b c
 simp[Builtin.zeroCells,Value.cells,zU,Nat.mod_one]
theorem cj {c:World}(l:Value) (a:List Int) (n:Option Addr) (g:Nat) (y:l=.slice n a.length g) (w:∀e:World,Cf c e->(Builtin.firstCells 1 a.length l).run prog e=.ok (zU a).toArray e)
  (t:∀f∈a,Byte f) (k:TypeId) (m:Value) (b:List Int) (x:Src prog 1 k m b.length (zU b) c) (u:∀f∈b,Byte f) (p:g<a.length+b.length) (C:a.length+b.length<=1000000000000) (q:TypeId) :
  ∃(e:World) (d:List Int),(Builtin.append_ #[25,k] q #[l,m]).run prog c=.ok (.slice (some ⟨c.heap.size,0,none⟩) (a++b).length d.length) e/\Row e c.heap.size d/\a++b <+: d/\d.length<=maxLen/\Cf c e:=by
 obtain⟨A,v,z,o,r⟩:=info_parts ao;subst y;have s:=grownCap_ge c (a.length+b.length) g 3;have B:=grownCap_le_maxLen c (a.length+b.length) g 3 (by unfold maxLen;omega);have j:=run_append_grow_src (P:=prog) c 25 k q 3 A (.int .i64 0) underlying25 v z n a.length g (zU a) (by rw[o];exact w _ (J.refl _ _).drew) m b.length (zU b) (by rw[o];exact x) p H
  (by rw[r];exact growslice_fits p H)
 rw[mQ,<-mE,List.append_toArray,<-mE]at j;obtain⟨d,i⟩:=rK (a++b++List.replicate (grownCap c (a.length+b.length) g 3-(a.length+b.length)) 0);rw[<-i]at j;refine⟨c.drew.alloc (.cells (zU d).toArray 3),d,?_,Row.alloc c.drew _ _ (λf h=>?_),⟨_,i.symm⟩,?_,(J.refl _ _).drew.alloc _⟩
 all_goals subst i
 .rw[j]
  simp only[Az,Av6];rw[Nat.add_sub_cancel' s]
 .simp only[Aw9,At2]at h
  rcases h with (h|h)|⟨_,rfl⟩
  .exact t f h
  .exact u f h
  exact⟨H,H⟩
 simp only[Az,Av6]
 omega
theorem ej {f:World}{c:Nat}{d b:List Int}(i:Row f c d) (w:b <+: d) (j:TypeId) (l:Value) (a:List Int) (z:Src prog 1 j l a.length (zU a) f) (s:∀q∈a,Byte q) (m:b.length+a.length<=d.length) (p:TypeId) :
  ∃(k:World) (e:List Int),(Builtin.append_ #[25,j] p #[.slice (some ⟨c,0,none⟩) b.length d.length,l]).run prog f=.ok (.slice (some ⟨c,0,none⟩) (b++a).length e.length) k/\Row k c e/\e.length=d.length/\b++a <+: e/\J (·=c) f k:=by
 obtain⟨o,u,B,h,A⟩:=info_parts ao;obtain⟨e,r,n,x⟩:=i.put w m s;have t:∀g,g<(zU a).length->(f.cell? ⟨c,0+b.length * o.size+g,none⟩).isSome=true:=λg v=>by
  rw[h,Nat.mul_one,Ax,i.c (b.length+g) _ (Az4 (by simp at v;omega))]
  rfl
 have y:=run_append_room_src (P:=prog) f 25 j p 3 o underlying25 u c 0 b.length d.length l a.length (zU a) (by rw[h];exact z) m t (λg _=>i.z _);refine⟨_,e,?_,r,n,x,rE _ _ _ _⟩;rw[y,h,Nat.mul_one,Ax,n,Az]
theorem Row.first {f:World}{c:Nat}{d a:List Int}(g:Row f c d) (j:a <+: d) (e:Nat) (b:World) (i:Cf f b):(Builtin.firstCells 1 a.length (.slice (some ⟨c,0,none⟩) a.length e)).run prog b=.ok (zU a).toArray b:=by
 have h:=(g.bytes j).chg i iE;refine run_firstCells_some b 1 a.length ⟨c,0,none⟩ a.length e (zU a) sI (λm o k=>?_);obtain⟨n,l,rfl⟩:=rW k;rw[Addr.add_lit];exact (h.c m n l).1
theorem Own.append {w:World}{B:Nat}{v:Value}{X:List Int}(a:Own w B v X) (t:B<=w.heap.size) (e:TypeId) (f:Value) (b:List Int) (l:Src prog 1 e f b.length (zU b) w) (p:∀n∈b,Byte n) (x:X.length+b.length<=1000000000000) (j:TypeId) :
  ∃r c,(Builtin.append_ #[25,e] j #[v,f]).run prog w=.ok r c/\Own c B r (X++b)/\J (λy=>B<=y) w c/\(r=.slice none 0 0->v=.slice none 0 0):=by
 rcases a with ⟨rfl,rfl⟩|⟨z,k,rfl,C,g,h,u⟩
 .rcases Ax6 b.length with s|s
  .have F:=Av1.1 s
   subst F;obtain⟨O,L,T,A,R⟩:=info_parts ao;refine⟨_,_,run_append_nothing (P:=prog) w 25 e j 3 O underlying25 L none 0 0 (Ay1 _) f (by rw[A];exact l),.inl ⟨D,D⟩,J.refl _ _,λ_=>rfl⟩
  obtain⟨c,k,i,g,h,u,d⟩:=cj (.slice none 0 0) [] none 0 D (λc _=>run_firstCells_none c 1 0 0 0) (λ_ a=>by cases a) e f b l p sO x j
  exact⟨_,_,i,.inr ⟨_,k,D,t,g,h,u⟩,d.mono (λ_ _ a=>a.elim),λa=>by cases a⟩
 by_cases N:X.length+b.length<=k.length
 .obtain⟨c,m,i,o,S,q,d⟩:=ej g h e f b l p N j
  exact⟨_,_,i,.inr ⟨z,m,D,C,o,q,H⟩,d.mono (λy _ Q=>H),λa=>by cases a⟩
 obtain⟨c,m,i,o,q,E,d⟩:=cj _ X _ k.length D (λc d=>g.first h _ c d) (λn K=>g.byte n (h.subset K)) e f b l p H x j
 exact⟨_,_,i,.inr ⟨_,m,D,t,o,q,E⟩,d.mono (λ_ _ a=>a.elim),λa=>by cases a⟩
theorem xJ {o:Array Oper}{rest:List Oper}{f:Oper}{b:Act}{d:World}{n:Exit->Act->World->Prop}(w:f.guard=none) (l m:Operand) (h:TypeId)
  (y:f.op=.call { callee:=.builtin .append,args:=#[l,m],argTypes:=#[25,h] }) (g:Nat) (j:Value) (k a:List Int) (i:Value) (C:b.eval l=j) (B:b.eval m=i)
  (p:Own d g j k) (t:g<=d.heap.size) (A:Src prog 1 h i a.length (zU a) d) (v:∀b∈a,Byte b) (x:k.length+a.length<=1000000000000)
  (u:∀c e,G (Own e g c (k++a))->G (J (λE=>g<=E) d e)->G (c=.slice none 0 0->j=.slice none 0 0)->wpList prog o n rest (b.put f.dst c) e):wpList prog o n (f :: rest) b d:=by
 obtain⟨c,e,z,q,r,s⟩:=p.append t h i a A v x f.type;exact Lib.wpList_append_run d w l m 25 h y j i C B c e z (u c e (V q) (V r) (V s))
theorem fz (a:Nat):madeCells (Value.int .i64 0).cells a=(zU (List.replicate a 0)).toArray:=by
 apply Array.ext
 .simp[madeCells,Value.cells,zU]
 intro d b c
 simp[madeCells,Value.cells,zU,Nat.mod_one]
theorem js {p:Array Oper}{rest:List Oper}{f:Oper}{c:Act}{b:World}{j:Exit->Act->World->Prop}(x:f.guard=none) (o k:Operand) (A:f.op=Op.makeSlice 25 o k)
  (n m:IntKind) (h i:Int) (e a:Nat) (z:c.eval o=.int n h) (w:c.eval k=.int m i) (u:h=e) (v:i=a) (F:e<=a) (K:a<=1000000000000)
  (s:∀g,G (Row g b.heap.size (List.replicate a 0))->G (Cf b g)->wpList prog p j rest (c.put f.dst (.slice (some ⟨b.heap.size,0,none⟩) e a)) g):wpList prog p j (f :: rest) c b:=by
 subst u v;obtain⟨C,y,B,q,r⟩:=info_parts ao;have d:=run_make (P:=prog) b 25 3 C (.int .i64 0) underlying25 y B n m e a H H (by rw[r];omega) H;rw[q]at d;simp only[Ay5,Nat.mul_one]at d;rw[fz]at d;refine wpList_plain x λE t=>?_
 unfold Oper.wp;simp[execOp,A,z,w,d,Result.andThen]
 exact t _ _ (s _ (V (Row.alloc b _ _ (λc l=>by rw[At2]at l;rw[l.2];exact⟨H,H⟩))) (V (rT)))
end Go.Proofs.YtgnpmceimpjheaaGreat.I
namespace Go.Proofs.YtgnpmceimpjheaaGreat.I
open Go.RowKit Go.Proofs.Tryz
theorem gd (a c:List Int) (n o:Option Addr) (p z q A P Q:Nat) (h:World) (x:BytesAt h p z a) (r:0<a.length->n=some ⟨p,z,none⟩) (y:BytesAt h q A c) (s:0<c.length->o=some ⟨q,A,none⟩) (a2:a.length<=1000000000000) :
  Calls prog 99 #[.slice n a.length P,.slice o c.length Q] h λR W=>R=.returned (.bool (decide (a=c)))/\Cf h W:=by
 obtain⟨L,N,E,F⟩:=sB x y r s;clear x y r s;by_cases l:a.length=c.length
 .have O:((a.length:Int) != (c.length:Int))=false:=by simp[l]
  go_enter func99,ntmps99
  go_wp2
  go_loopw [5] (λm wr=>∃b:Nat,b<=a.length/\m=.int .i64 b/\Cf h wr/\a.take b=c.take b) (λm _=>a.length-(intOf m).toNat)
  .exact⟨0,H,D,J.refl _ _,sI⟩
  obtain⟨b,a1,rfl,t,u⟩:=hrel;have d:=V t;have f:=V u;clear t u;by_cases U:b<a.length
  .have X:=rO b a.length
   obtain⟨B,v,Z,a3,a4⟩:=(L.o.chg d.o iE).get U;obtain⟨C,w,a0,a5,a6⟩:=(N.o.chg d.o iE).get (k:=b) H;have S:=E.o H;have T:=F.o H;subst S T;have g:=V v;have i:=V w;clear v w;by_cases j:B=C
   .subst j
    have K:G (a.take (b+1)=c.take (b+1)):=V (by rw[Ay3,Ay3,f.o,g.o,i.o]);clear f g i;go_upto_region 6 with fail
    go_still M
    go_wp2;go_roundw
    .exact⟨b+1,H,GN,d.o.drew,K.o⟩
    simp[intOf];omega
   have Y:(B != C)=true:=by simpa using j
   have e:G (decide (a=c)=false):=V (by
    apply decide_eq_false
    intro k;rw[k,i.o]at g;exact j (Az2 g.o).symm)
   clear f g i j;go_upto_region 6 with fail
   go_still M
   go_wp2;go_ret
   exact⟨by rw[e.o];rfl,d.o.drew⟩
  obtain rfl:b=a.length:=H
  have e:G (decide (a=c)=true):=V (by
   have:=f.o;rw[Ay7,l,Ay7]at this;simp[this])
  clear f;go_wp2;go_ret
  exact⟨by rw[e.o];rfl,d.o⟩
 have O:((a.length:Int) != (c.length:Int))=true:=by simp;omega
 have e:G (decide (a=c)=false):=V (by
  apply decide_eq_false
  intro k;exact l (by rw[k]))
 go_enter func99,ntmps99
 go_wp2;go_ret
 exact⟨by rw[e.o];rfl,cR⟩
end Go.Proofs.YtgnpmceimpjheaaGreat.I
namespace Go.Proofs.YtgnpmceimpjheaaGreat
open Go.RowKit Go.Proofs.Tryz
variable {a b c d e f g h i j k l m n o p q r:Nat}{w v u t s:World}{X Y W L T:List Int}{A B C E Z:Value}{x y z:Int}{N R:Bool}{F Q:Option Addr}{S P:Nat->Prop}
section
abbrev Sl:=Option Addr×Nat×Nat
def slV (s:Sl):Value:=.slice s.1 s.2.1 s.2.2
abbrev em (c:Int×Int):Prop:=I.Byte c.1/\I.Byte c.2
def tY (c:Int×Int):List Value:=[.int .i64 c.1,.int .i64 c.2]
def ck (x:Int×Sl):List Value:=[.int .i64 x.1,slV x.2]
def vU:Elt (Int×Int) where
 enc:=tY
 sz:=2
 bs:=16
 e:=246
 sl:=239
 z:=(0,0)
 zv:=.agg #[.int .i64 0,.int .i64 0]
 ok:=em
 pos:=H
 len:=λ_=>rfl
 one:=λa u hu=>by
  simp only[tY,Ax5,Av4,or_false]at hu;rcases hu with rfl|rfl <;> rfl
 zok:=dE
 info:=M
 zc:=rfl
 und:=M
 bsl:=H
def uW:Elt (Int×Int) where
 enc:=tY
 sz:=2
 bs:=16
 e:=238
 sl:=234
 z:=(0,0)
 zv:=.agg #[.int .i64 0,.int .i64 0]
 ok:=em
 pos:=H
 len:=λ_=>rfl
 one:=λa u hu=>by
  simp only[tY,Ax5,Av4,or_false]at hu;rcases hu with rfl|rfl <;> rfl
 zok:=dE
 info:=M
 zc:=rfl
 und:=M
 bsl:=H
def rowE:Elt (Int×Sl) where
 enc:=ck
 sz:=2
 bs:=32
 e:=241
 sl:=199
 z:=(0,none,0,0)
 zv:=.agg #[.int .i64 0,.slice none 0 0]
 ok:=λx=>I.Byte x.1
 pos:=H
 len:=λ_=>rfl
 one:=λa u hu=>by
  simp only[ck,Ax5,Av4,or_false]at hu;rcases hu with rfl|rfl <;> rfl
 zok:=dE
 info:=M
 zc:=rfl
 und:=M
 bsl:=H
def rowR:Elt (Int×Sl) where
 enc:=ck
 sz:=2
 bs:=32
 e:=236
 sl:=192
 z:=(0,none,0,0)
 zv:=.agg #[.int .i64 0,.slice none 0 0]
 ok:=λx=>I.Byte x.1
 pos:=H
 len:=λ_=>rfl
 one:=λa u hu=>by
  simp only[ck,Ax5,Av4,or_false]at hu;rcases hu with rfl|rfl <;> rfl
 zok:=dE
 info:=M
 zc:=rfl
 und:=M
 bsl:=H
def pW:Elt Sl where
 enc:=λs=>[slV s]
 sz:=1
 bs:=24
 e:=25
 sl:=26
 z:=(none,0,0)
 zv:=.slice none 0 0
 ok:=λ_=>True
 pos:=H
 len:=λ_=>rfl
 one:=λa u hu=>by
  simp only[Ax5,Av4,or_false]at hu;subst hu;rfl
 zok:=trivial
 info:=M
 zc:=rfl
 und:=M
 bsl:=H
variable {α:Type}{E:Elt α}
def Elt.In (E:Elt α) (w:World) (B:Nat) (s:Sl) (L:List α):Prop :=
 s.2.1=L.length/\s.2.1<=s.2.2/\∃g o,E.At w g o L/\(0<L.length->s.1=some ⟨g,o,none⟩/\B<=g)
theorem Elt.In.chg {S:Nat->Prop}{g w':World}{e:Nat}{d:Sl}{b:List α}(h:E.In g e d b) (l:J S g w') (n:∀a c,d.1=some ⟨a,c,none⟩->¬S a):E.In w' e d b:=by
 obtain⟨i,j,a,c,k,f⟩:=h;exact⟨i,j,a,c,k.chg l (λm=>n a c (f (by cases b with
  | nil=>exact absurd D m
  | cons o b=>simp)).1),f⟩
theorem Elt.In.same {e f:World}{b:Nat}{d:Sl}{c:List α}(a:E.In e b d c) (g:Cf e f):E.In f b d c:=a.chg g (λ_ _ _ a=>a)
theorem Elt.In.lower {f:World}{a B':Nat}{e:Sl}{b:List α}(h:E.In f a e b) (l:B'<=a):E.In f B' e b:=by
 obtain⟨i,j,g,m,k,c⟩:=h;exact⟨i,j,g,m,k,λd=>⟨(c d).1,Ay2 l (c d).2⟩⟩
theorem Elt.In.nil (E:Elt α) (w:World) (B:Nat):E.In w B (none,0,0) []:=⟨D,Ay1 _,0,0,.nil _ _ _ _,λh=>absurd h sI⟩
theorem Elt.Own.in' {e:World}{b:Nat}{d:Option Addr}{a f c':Nat}{c:List α}(k:E.Own e b (.slice d a f) c) (o:a<=c'):E.In e b (d,a,c') c:=by
 obtain⟨p,j,q,l,r,m,n⟩:=k.at';injection l with g h i;subst g h i;exact⟨D,o,j,0,m,n⟩
theorem Elt.In.get2 {h:World}{o:Nat}{p:Option Addr}{y u:Nat}{b:List α}(w:E.In h o (p,y,u) b) (t:E.sz=2) {a:Nat}(l:a<b.length):∃(n:α) (c e:Nat) (d f:Value),b[a]?=some n/\p=some ⟨c,e,none⟩/\E.enc n=[d,f]/\h.cell? ⟨c,e+a * 2,none⟩=some d/\h.cell? ⟨c,e+a * 2+1,none⟩=some f/\E.ok n/\o<=c/\c<h.heap.size:=by
 obtain⟨z,A,c,e,g,j⟩:=w;obtain⟨j,x⟩:=j H;have m:b[a]?=some b[a]:=Az4 l;have s:=E.len b[a];rw[t]at s
 match k:E.enc b[a],s with
 | [d,f],_ =>
  have q:=g.get m (i:=0) (u:=d) (by rw[k];rfl);have r:=g.get m (i:=1) (u:=f) (by rw[k];rfl);rw[t]at q r;exact⟨_,c,e,d,f,m,j,k,by simpa using q,by rw[Au0];exact r,g.ok _ (List.getElem_mem _),x,g.lt (by intro v;rw[v]at l;simp at l)⟩
def kU (E:Elt (Int×Int)) (w:World) (B:Nat) (x:Int×Sl) (r:RowD):Prop:=x.1=r.1/\I.Byte r.1/\E.In w B x.2 r.2
theorem kU.chg {E:Elt (Int×Int)}{S:Nat->Prop}{f w':World}{c:Nat}{b:Int×Sl}{e:RowD}(a:kU E f c b e) (g:J S f w') (h:∀d i,b.2.1=some ⟨d,i,none⟩->¬S d):kU E w' c b e:=⟨a.1,a.2.1,a.2.2.chg g h⟩
theorem kU.same {E:Elt (Int×Int)}{d e:World}{b:Nat}{f:Int×Sl}{c:RowD}(a:kU E d b f c) (g:Cf d e):kU E e b f c:=a.chg g (λ_ _ _ a=>a)
def vW (E:Elt (Int×Int)) (F:Elt (Int×Sl)) (w:World) (B:Nat) (s:Sl) (R:List RowD):Prop :=
 ∃X:List (Int×Sl),F.In w B s X/\X.length=R.length/\∀(j:Nat) x r,X[j]?=some x->R[j]?=some r->kU E w B x r
theorem vW.same {E:Elt (Int×Int)}{b:Elt (Int×Sl)}{f g:World}{a:Nat}{e:Sl}{c:List RowD}(i:vW E b f a e c) (d:Cf f g):vW E b g a e c:=by
 obtain⟨h,j,k,l⟩:=i;exact⟨h,j.same d,k,λo q p n m=>(l o q p n m).same d⟩
theorem bw {c:World}{a:Nat}{u0 u1:Value}(d e:Value) (f:c.cell? ⟨a,0,none⟩=some u0) (g:c.cell? ⟨a,1,none⟩=some u1) :
  ((c.setCell ⟨a,0,none⟩ d).setCell ⟨a,1,none⟩ e).cell? ⟨a,0,none⟩=some d/\((c.setCell ⟨a,0,none⟩ d).setCell ⟨a,1,none⟩ e).cell? ⟨a,1,none⟩=some e/\J (·=a) c ((c.setCell ⟨a,0,none⟩ d).setCell ⟨a,1,none⟩ e):=by
 refine⟨?_,Az9 _ _ _ (u:=u1) ?_,(zA _ _ _ _).trans (zA _ _ _ _)⟩
 .rw[Ay0 _ _ _ _ (by intro b;injection b with _ b;cases b)]
  exact Az9 _ _ _ f
 rw[Ay0 _ _ _ _ (by intro b;injection b with _ b;cases b)]
 exact g
theorem jS {c:World}{a:Nat}{u0 u1 u2:Value}(d e f:Value) (g:c.cell? ⟨a,0,none⟩=some u0) (h:c.cell? ⟨a,1,none⟩=some u1) (i:c.cell? ⟨a,2,none⟩=some u2) :
  (((c.setCell ⟨a,0,none⟩ d).setCell ⟨a,1,none⟩ e).setCell ⟨a,2,none⟩ f).cell? ⟨a,0,none⟩=some d/\(((c.setCell ⟨a,0,none⟩ d).setCell ⟨a,1,none⟩ e).setCell ⟨a,2,none⟩ f).cell? ⟨a,1,none⟩=some e/\(((c.setCell ⟨a,0,none⟩ d).setCell ⟨a,1,none⟩ e).setCell ⟨a,2,none⟩ f).cell? ⟨a,2,none⟩=some f/\J (·=a) c (((c.setCell ⟨a,0,none⟩ d).setCell ⟨a,1,none⟩ e).setCell ⟨a,2,none⟩ f):=by
 obtain⟨j,k,l⟩:=bw d e g h;have m:((c.setCell ⟨a,0,none⟩ d).setCell ⟨a,1,none⟩ e).cell? ⟨a,2,none⟩=some u2:=by
  rw[Ay0 _ _ _ _ (by intro b;injection b with _ b;cases b),Ay0 _ _ _ _ (by intro b;injection b with _ b;cases b)];exact i
 refine⟨?_,?_,Az9 _ _ _ m,l.trans (zA _ _ _ _)⟩
 .rw[Ay0 _ _ _ _ (by intro b;injection b with _ b;cases b)]
  exact j
 rw[Ay0 _ _ _ _ (by intro b;injection b with _ b;cases b)]
 exact k
structure Fld (E:Elt α) (br off:Nat) (w:World) (v:Value) (X:List α):Prop where
 c:w.cell? ⟨br,off,none⟩=some v
 z:w.frozen? ⟨br,off,none⟩=false
 own:E.Own w (br+1) v X
theorem Fld.lt {a e:Nat}{b:World}{f:Value}{c:List α}(d:Fld E a e b f c):a<b.heap.size:=Az8 _ _ d.c
theorem Fld.chg {S:Nat->Prop}{a f:Nat}{g w':World}{i:Value}{h:List α}(b:Fld E a f g i h) (d:J S g w') (e:∀c,a<=c->c<g.heap.size->¬S c):Fld E a f w' i h :=
 ⟨d.cellS b.c (e a (Ay1 _) b.lt),(d.frozen (p:=⟨a,f,none⟩) b.lt (e a (Ay1 _) b.lt)).trans b.z,b.own.chg d (λc j=>e c H)⟩
theorem Fld.step {a b:Nat}{i c:World}{n e:Value}{q l:List α}(j:Fld E a b i n q) (t:E.Own c (a+1) e l) (g:J (λf=>a+1<=f) i c) :
  (c.cell? ⟨a,b,none⟩=some n/\c.frozen? ⟨a,b,none⟩=false)/\Fld E a b (c.setCell ⟨a,b,none⟩ e) e l/\J (λf=>a<=f) i (c.setCell ⟨a,b,none⟩ e) /\
   ∀h k,h≠b->i.cell? ⟨a,h,none⟩=some k->(c.setCell ⟨a,b,none⟩ e).cell? ⟨a,h,none⟩=some k:=by
 have r:=j.lt;have m:=g.cellS j.c (by show ¬a+1<=a;omega);have o:=(g.frozen (p:=⟨a,b,none⟩) r (by show ¬a+1<=a;omega)).trans j.z;refine⟨⟨m,o⟩,⟨Az9 _ _ _ m,(Az3 _ _ _ _).trans o,t.chg (zA _ _ _ _) (λv w _ d=>H)⟩,(g.mono (λf _ d=>H)).trans ((zA c a b e).mono (λf _ d=>H)),λh k s u=>?_⟩;rw[Ay0 _ _ _ _ (by intro d;injection d with _ d;exact s d.symm)];exact g.cellS u (by show ¬a+1<=a;omega)
end
def idxV {α:Type}(p:α->Bool) (L:List α):Int:=if L.findIdx p<L.length then (L.findIdx p:Int) else -1
theorem tJ {c:Type}{p:c->Bool}{a:List c}{k:Nat}{x:c}(e:a[k]?=some x) (j:p x=true) (g:∀(b:Nat) (f:c),b<k->a[b]?=some f->p f=false):idxV p a=k:=by
 have d:=(Az0.1 e).1;have h:a.findIdx p=k:=(List.findIdx_eq d).2 ⟨by rw[(Az0.1 e).2];exact j,λb i=>g b _ i (Az4 H)⟩;unfold idxV;rw[h,if_pos d]
theorem qW {c:Type}{p:c->Bool}{a:List c}(g:∀(b:Nat) (f:c),b<a.length->a[b]?=some f->p f=false):idxV p a=-1:=by
 have:¬a.findIdx p<a.length:=by
  rw[List.findIdx_lt_length];rintro ⟨i,h,e⟩;obtain⟨b,d,rfl⟩:=Au2 h;rw[g b _ d (Az4 d)]at e;cases e
 unfold idxV;rw[if_neg this]
theorem sG {j:Type}(a:j->Bool):∀b:List j,(∃(f:Nat) (c:j),b[f]?=some c/\a c=true/\idxV a b=f/\b.find? a=some c/\b.any a=true)\/(idxV a b=-1/\b.find? a=none/\b.any a=false)
 | []=>.inr ⟨D,D,D⟩
 | c :: b=>by
  by_cases e:a c=true
  .exact .inl ⟨0,c,D,e,tJ (k:=0) (x:=c) D e (λo k l=>absurd l (Ax1 _)),by simp[e],by simp[e]⟩
  have d:a c=false:=by simpa using e
  rcases sG a b with ⟨f,k,g,i,h,m,n⟩|⟨g,i,h⟩
  .refine .inl ⟨f+1,k,by simpa using g,i,?_,by simp[d,m],by simp only[List.any_cons,d,n,Au9]⟩
   unfold idxV at h ⊢;simp only[List.findIdx_cons,d,cond_false,Ax2]
   split at h
   .rw[if_pos H];omega
   omega
  refine .inr ⟨?_,by simp[d,i],by simp only[List.any_cons,d,h,Au9]⟩
  unfold idxV at g ⊢;simp only[List.findIdx_cons,d,cond_false,Ax2]
  split at g
  .omega
  rw[if_neg H]
theorem jy (d e b:Int) (c:Nat) (a:World) (g:a.cell? ⟨c,0,none⟩=some (.int .i64 b)) :
  Calls prog 196 #[.agg #[.int .i64 d,.int .i64 e],.pointer (some ⟨c,0,none⟩)] a λf h=>f=.returned (.bool (d == b))/\Cf a h:=by
 have i:(a.alloc (.cells #[.int .i64 d,.int .i64 e] 246)).cell? ⟨c,0,none⟩=some (.int .i64 b):=((FR a).alloc _).cellS g iD;go_enter func196,ntmps196
 go_wp2;go_ret
 exact⟨D,rT⟩
theorem jz (a:List (Int×Int)) (z:Option Addr) (e L k:Nat) (b:Int) (i:World) (n:vU.In i L (z,a.length,e) a) (E:i.cell? ⟨k,0,none⟩=some (.int .i64 b)) (Z:a.length<=1000000000) :
  Calls prog 195 #[.slice z a.length e,.func (.func 196) #[] #[.pointer (some ⟨k,0,none⟩)]] i λs l=>s=.returned (.int .i64 (idxV (λe=>e.1 == b) a))/\Cf i l:=by
 have O:=V n;have x:G (∀l,Cf i l->l.cell? ⟨k,0,none⟩=some (.int .i64 b)):=V λl o=>o.cellS E iD
 clear n E;go_enter func195,ntmps195
 go_wp2
 go_loopw [8] (λv wr=>∃c:Nat,c<=a.length/\v=.int .i64 c/\(∀(d:Nat) f,d<c->a[d]?=some f->(f.1 == b)=false)/\Cf i wr) (λv _=>a.length-(intOf v).toNat)
 .exact⟨0,H,D,λd f n=>absurd n (Ax1 _),cR⟩
 obtain⟨c,Y,rfl,C,o⟩:=hrel;have p:=V C;have g:=V o;clear C o;by_cases P:c<a.length
 .have U:=rO c a.length
  obtain⟨T,W,a0,Q,R,F,rfl,h,A,B,-,-,-⟩:=(O.o.same g.o).get2 D P;obtain⟨m,w⟩:=T;have y:=V F
  change tY (m,w)=[Q,R]at h
  unfold tY at h;simp only[List.cons.injEq,and_true]at h;obtain⟨rfl,rfl⟩:=h;clear F;by_cases t:(m == b)=true
  .go_wp2_with fail
   refine (jy m w b k wr (x.o wr g.o)).mono ?_;rintro s S ⟨rfl,j⟩;rw[t];have q:=V (g.o.trans j);have r:G (idxV (λe=>e.1 == b) a=c):=V (tJ y.o t p.o);clear j A B;go_wp2;go_ret
   exact⟨by rw[r.o];rfl,q.o⟩
  have K:(m == b)=false:=by simpa using t
  have N:G (∀(d:Nat) f,d<c+1->a[d]?=some f->(f.1 == b)=false):=V (λd f X u=>by
   by_cases h:d=c
   .subst h;rw[y.o]at u;obtain rfl:=Az2 u;exact K
   exact p.o d f H u)
  go_wp2_with fail
  refine (jy m w b k wr (x.o wr g.o)).mono ?_;rintro s S ⟨rfl,j⟩;rw[K];have q:=V (g.o.trans j);clear j A B;go_wp2;go_roundw
  .exact⟨c+1,H,GN,N.o,q.o⟩
  simp[intOf];omega
 obtain rfl:c=a.length:=H
 have r:G (idxV (λe=>e.1 == b) a=-1):=V (qW p.o);go_wp2;go_ret
 exact⟨by rw[r.o];rfl,g.o⟩
theorem ud (e:Int) (a:List (Int×Int)) (g:Option Addr) (b m:Nat) (f:Int) (d:World) (s:vU.In d m (g,a.length,b) a) (w:a.length<=1000000000) :
  Calls prog 188 #[.agg #[.int .i64 e,.slice g a.length b],.int .i64 f] d λr C=>r=.returned (.int .i64 (af (e,a) f))/\Cf d C:=by
 have q:=V s;have O:a.length<=b:=s.2.1;clear s;rcases sG (λb:Int×Int=>b.1 == f) a with ⟨P,v,t,z,h,i,-⟩|⟨h,i,-⟩
 .have o:=V h
  have A:=(Az0.1 t).1;have n:G (af (e,a) f=v.2):=V (by unfold af;simp only[i]);have x:=V t;clear t z h i;go_enter func188,ntmps188
  go_wp2_with fail
  refine (jz a g b m _ f _ (q.o.same ((rT).alloc _)) sI w).mono ?_;rintro r E ⟨rfl,c⟩;rw[o.o];have y:=c.cellS (p:=⟨d.heap.size,0,none⟩) (v:=.int .i64 e) sI iD;have F:=c.cellS (p:=⟨d.heap.size,1,none⟩) (v:=.slice g a.length b) sI iD;have j:=V (J.trans (((J.refl _ d).alloc _).alloc _) c);obtain⟨R,N,Q,B,l,u,rfl,k,K,L,-,-,-⟩:=(q.o.same j.o).get2 D A;rw[x.o]at u;obtain rfl:=Az2 u
  change tY (v.1,v.2)=[B,l]at k
  unfold tY at k;simp only[List.cons.injEq,and_true]at k;obtain⟨rfl,rfl⟩:=k;clear u c;go_wp2;go_ret
  exact⟨by rw[n.o];rfl,j.o⟩
 have o:=V h
 have n:G (af (e,a) f=e):=V (by unfold af;simp only[i]);clear h i;go_enter func188,ntmps188
 go_wp2_with fail
 refine (jz a g b m _ f _ (q.o.same ((rT).alloc _)) sI w).mono ?_;rintro r E ⟨rfl,c⟩;rw[o.o];have y:=c.cellS (p:=⟨d.heap.size,0,none⟩) (v:=.int .i64 e) sI iD;have j:=V (J.trans (((J.refl _ d).alloc _).alloc _) c);clear c;go_wp2;go_ret
 exact⟨by rw[n.o];rfl,j.o⟩
end Go.Proofs.YtgnpmceimpjheaaGreat
