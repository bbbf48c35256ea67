/- A part of the proof: Base Bytes List RowsL Nums TwinsI RowsE RowsA. -/
import Derived.Test.YtgnpmceimpjheaaGreatRows
import Derived.WalkKit
import Derived.WalkSpells
import Derived.WalkLawsBesides
import Derived.Deep.Quiet
import Derived.Maps.OwnSet
import Derived.Lib.Hide
import Derived.StillTailTactics
import Derived.ProofKit
import Derived.Deep.AppendSrc
import Derived.Deep.Upon
import Derived.Lib.AppendZerosOnto
import Derived.LoopTactic
import Derived.Deep.DeepCutAuto
import Derived.Deep.CutBlock
import Derived.OwnWalk
set_option maxRecDepth 100000
set_option maxHeartbeats 16000000
namespace Go.Proofs.YtgnpmceimpjheaaGreat
open Go.RowKit
def Hd (p:Prop):Prop:=p
theorem Hd.o{p:Prop}(h:Hd p):p:=h
theorem Hd.out{p:Prop}(h:Hd p):p:=h
theorem Az:type_of% @List.getElem?_eq_getElem:=@List.getElem?_eq_getElem
theorem Az0:type_of% @List.length_append:=@List.length_append
theorem Az1:type_of% @List.getElem?_eq_some_iff:=@List.getElem?_eq_some_iff
theorem Az2:type_of% @List.mem_of_getElem?:=@List.mem_of_getElem?
theorem Az3:type_of% @Option.some.inj:=@Option.some.inj
theorem Az4:type_of% @World.frozen?_setCell:=@World.frozen?_setCell
theorem Az5:type_of% @List.append_assoc:=@List.append_assoc
theorem Az6:type_of% @World.block_lt_of_cell?:=@World.block_lt_of_cell?
theorem Az7:type_of% @World.cell?_alloc_new:=@World.cell?_alloc_new
theorem Az8:type_of% @World.frozen?_alloc_new:=@World.frozen?_alloc_new
theorem Az9:type_of% @World.cell?_setCell_same:=@World.cell?_setCell_same
theorem Ay:type_of% @Nat.le_refl:=@Nat.le_refl
theorem Ay0:type_of% @World.cell?_setCell_other:=@World.cell?_setCell_other
theorem Ay1:type_of% @List.take_add_one:=@List.take_add_one
theorem Ay2:type_of% @Bool.and_eq_true:=@Bool.and_eq_true
theorem Ay3:type_of% @List.mem_singleton:=@List.mem_singleton
theorem Ay4:type_of% @Nat.le_trans:=@Nat.le_trans
theorem Ay5:type_of% @List.take_length:=@List.take_length
theorem Ay6:type_of% @Int.toNat_natCast:=@Int.toNat_natCast
theorem Ay7:type_of% @Exists.intro:=@Exists.intro
theorem Ay8:type_of% @List.getElem?_append_left:=@List.getElem?_append_left
theorem Ay9:type_of% @Nat.lt_of_lt_of_le:=@Nat.lt_of_lt_of_le
theorem Ax:type_of% @Nat.not_lt_zero:=@Nat.not_lt_zero
theorem Ax0:type_of% @Nat.zero_add:=@Nat.zero_add
theorem Ax1:type_of% @List.length_take:=@List.length_take
theorem Ax2:type_of% @List.length_cons:=@List.length_cons
theorem Ax3:type_of% @List.mem_cons:=@List.mem_cons
theorem Ax4:type_of% @List.getElem?_append_right:=@List.getElem?_append_right
theorem Ax5:type_of% @List.all_eq_true:=@List.all_eq_true
theorem Ax6:type_of% @List.take_of_length_le:=@List.take_of_length_le
theorem Ax7:type_of% @List.getElem?_of_mem:=@List.getElem?_of_mem
theorem Ax8:type_of% @Bool.not_eq_true':=@Bool.not_eq_true'
theorem Ax9:type_of% @Array.getElem?_toList:=@Array.getElem?_toList
theorem Aw:type_of% @List.getElem?_map:=@List.getElem?_map
theorem Aw0:type_of% @Bool.false_and:=@Bool.false_and
theorem Aw1:type_of% @List.any_eq_false:=@List.any_eq_false
theorem Aw2:type_of% @List.getD_eq_getElem?_getD:=@List.getD_eq_getElem?_getD
theorem Aw3:type_of% @List.length_map:=@List.length_map
theorem Aw4:type_of% @Nat.eq_zero_or_pos:=@Nat.eq_zero_or_pos
theorem Aw5:type_of% @List.length_nil:=@List.length_nil
theorem Aw6:type_of% @List.prefix_refl:=@List.prefix_refl
theorem Aw7:type_of% @List.nil_append:=@List.nil_append
theorem Aw8:type_of% @Int.eq_ofNat_of_zero_le:=@Int.eq_ofNat_of_zero_le
theorem Aw9:type_of% @List.length_eq_zero_iff:=@List.length_eq_zero_iff
theorem Av:type_of% @Nat.zero_le:=@Nat.zero_le
theorem Av0:type_of% @List.not_mem_nil:=@List.not_mem_nil
theorem Av1:type_of% @Bool.and_false:=@Bool.and_false
theorem Av2:type_of% @List.mem_append:=@List.mem_append
theorem Av3:type_of% @List.length_replicate:=@List.length_replicate
theorem Av4:type_of% @List.append_nil:=@List.append_nil
theorem Av5:type_of% @List.getElem?_set_self:=@List.getElem?_set_self
theorem Av6:type_of% @List.length_drop:=@List.length_drop
theorem Av7:type_of% @Bool.true_and:=@Bool.true_and
theorem Av8:type_of% @Nat.add_assoc:=@Nat.add_assoc
theorem Av9:type_of% @List.getElem_of_mem:=@List.getElem_of_mem
theorem Au:type_of% @List.length_take_le:=@List.length_take_le
theorem Au0:type_of% @Nat.sub_self:=@Nat.sub_self
theorem Au1:type_of% @Bool.false_ne_true:=@Bool.false_ne_true
theorem Au2:type_of% @List.drop_eq_getElem_cons:=@List.drop_eq_getElem_cons
theorem Au3:type_of% @List.getElem?_set_ne:=@List.getElem?_set_ne
theorem Au4:type_of% @List.length_set:=@List.length_set
theorem Au5:type_of% @List.any_eq_true:=@List.any_eq_true
theorem Au6:type_of% @Bool.eq_iff_iff:=@Bool.eq_iff_iff
theorem Au7:type_of% @List.length_zip:=@List.length_zip
theorem Au8:type_of% @Bool.false_or:=@Bool.false_or
theorem Au9:type_of% @List.cons_append:=@List.cons_append
theorem At0:type_of% @List.mem_map:=@List.mem_map
theorem At1:type_of% @List.mem_of_mem_take:=@List.mem_of_mem_take
theorem At2:type_of% @List.mem_range:=@List.mem_range
theorem At3:type_of% @List.mem_replicate:=@List.mem_replicate
theorem At4:type_of% @Bool.or_eq_true:=@Bool.or_eq_true
theorem oM {p:Prop} (h:p:=by omega):p:=h
theorem kR {p:Prop} (h:p:=by kernel_rfl):p:=h
theorem sI {p:Prop} (h:p:=by simp):p:=h
theorem dE {p:Prop} (h:p:=by decide):p:=h
theorem sO {p:Prop} (h:p:=by simp;omega):p:=h
theorem iD {p:Prop} (h:p):p:=h
theorem iE {α:Sort _} {p:α→Prop} (a:α) (h:p a):p a:=h
theorem iF {α:Sort _} {β:α→Sort _} {p:∀ a,β a→Prop} (a:α) (b:β a) (h:p a b):p a b:=h
theorem jh {p:Prop} (h:p):Hd p:=h
theorem mkfn:∀ (fn:Fn) (first cap:Array Value) (w:World),(Instr.makeFunc fn first cap).run Tryz.prog w=.ok (.func fn first cap) w:=fun _ _ _ _=>rfl
structure Chg (S:Nat->Prop) (w w':World):Prop where
 os:w'.os=w.os
 tape:w'.tape=w.tape
 output:w'.output=w.output
 size:w.heap.size<=w'.heap.size
 block:∀k,k<w.heap.size->¬S k->w'.heap[k]?=w.heap[k]?
abbrev Cf:=Chg (λ_=>False)
theorem Chg.refl (S:Nat->Prop) (w:World):Chg S w w:=⟨rfl,rfl,rfl,Ay _,λ_ _ _=>rfl⟩
theorem cR {S:Nat→Prop} {w:World}:Chg S w w:=Chg.refl _ _
theorem Chg.trans {S:Nat->Prop}{a b c:World}(h:Chg S a b) (k:Chg S b c):Chg S a c :=
 ⟨k.os.trans h.os,k.tape.trans h.tape,k.output.trans h.output,Ay4 h.size k.size,λi hi hs=>(k.block i (Ay9 hi h.size) hs).trans (h.block i hi hs)⟩
theorem Chg.mono {S T:Nat->Prop}{w w':World}(h:Chg S w w') (hST:∀k,k<w.heap.size->S k->T k):Chg T w w' :=
 ⟨h.os,h.tape,h.output,h.size,λk hk ht=>h.block k hk (λhs=>ht (hST k hk hs))⟩
theorem Chg.drew {S:Nat->Prop}{a w:World}(h:Chg S a w):Chg S a w.drew:=⟨h.os,h.tape,h.output,h.size,h.block⟩
theorem Chg.alloc {S:Nat->Prop}{a w:World}(h:Chg S a w) (o:Obj):Chg S a (w.alloc o) :=
 h.trans ⟨rfl,rfl,rfl,sI,λk hk _=>Below.heap_alloc _ _ _ hk⟩
theorem Chg.setCell {S:Nat->Prop}{a w:World}(h:Chg S a w) {p:Addr}(hp:a.heap.size<=p.block\/S p.block) (u:Value):Chg S a (w.setCell p u) :=
 ⟨h.os,h.tape,h.output,by simpa [World.setCell] using h.size,λk hk hs=>by
  rw[Below.heap_setCell _ _ _ _ (by rcases hp with h1|h1;· omega
                                    .intro e;subst e;exact hs h1)]
  exact h.block k hk hs⟩
theorem Chg.grown {S:Nat->Prop}{a w w':World}{row:Option Nat}(h:Chg S a w) (hg:w.grownBy w' row) (hr:∀k,row=some k->a.heap.size<=k\/S k):Chg S a w' :=
 ⟨hg.os.trans h.os,hg.tape.trans h.tape,hg.output.trans h.output,Ay4 h.size hg.size,λk hk hs=>by
  rw[hg.block k (Ay9 hk h.size) (λe=>by rcases hr k e.symm with h1|h1;· omega
                                        .exact hs h1)]
  exact h.block k hk hs⟩
theorem Chg.to_below {w w':World}(h:Cf w w'):Below w.heap.size w w' :=
 ⟨h.os,h.tape,h.output,h.size,λk hk=>h.block k hk iD⟩
theorem Chg.cell {S:Nat->Prop}{w w':World}(h:Chg S w w') {p:Addr}(hp:p.block<w.heap.size) (hs:¬S p.block):w'.cell? p=w.cell? p:=World.cell?_of_block (h.block p.block hp hs)
theorem Chg.frozen {S:Nat->Prop}{w w':World}(h:Chg S w w') {p:Addr}(hp:p.block<w.heap.size) (hs:¬S p.block):w'.frozen? p=w.frozen? p:=World.frozen?_of_block (h.block p.block hp hs)
theorem Chg.cellS {S:Nat->Prop}{w w':World}(h:Chg S w w') {p:Addr}{v:Value}(hc:w.cell? p=some v) (hs:¬S p.block):w'.cell? p=some v:=by
 rw[h.cell (Az6 _ _ hc) hs];exact hc
section
variable {P:Program}{ops:Array Oper}{md:Region.Mode}{Q:Exit->Act->World->Prop}
abbrev Cls:=Array Bool->World->Prop
def zL7 (P:Program) (C:Cls) (i:Nat) (listed:Array Bool) (w:World) (v:Value):Result Next->Prop
 | .ok (.value u) w'=>u=v/\C (listed.setIfInBounds i true) w'
 | .ok .skip w'=>v=undef/\C (listed.setIfInBounds i true) w'
 | .ok (.enter f args) w'=>w'=w/\Calls P f args w (λe w''=>e=.returned v/\C (listed.setIfInBounds i true) w'')
 | _=>False
def aQ (P:Program) (ops:Array Oper) (md:Region.Mode) (C:Cls) (i:Nat) (o:Oper) (v:Value) (a:Act):Prop :=
 (Region.wanted o (yielded ops a.tmps)=true/\∀listed w,i∈Region.ready md ops listed->C listed w->zL7 P C i listed w v ((execOp a.eval o).run P w)) \/
 (Region.wanted o (yielded ops a.tmps)=false/\v=undef/\∀listed w,i∈Region.ready md ops listed->C listed w->C (listed.setIfInBounds i true) w)
def wpC (P:Program) (ops:Array Oper) (md:Region.Mode) (C:Cls) (L:Act->Prop):List Oper->Nat->Act->Prop
 | [],_,a=>L a
 | o :: rest,i,a=>∃v,aQ P ops md C i o v a/\wpC P ops md C L rest (i+1) (a.put o.dst v)
def anyC (P:Program) (ops:Array Oper) (md:Region.Mode) (C:Cls) (L:Act->Prop):Nat->Array Bool->Act->Prop
 | 0,listed,a=>Region.ready md ops listed=[]/\L a
 | fuel+1,listed,a=>(Region.ready md ops listed=[]->L a) /\
  ∀i∈Region.ready md ops listed,∃o v,ops[i]?=some o/\aQ P ops md C i o v a/\anyC P ops md C L fuel (listed.setIfInBounds i true) (a.put o.dst v)
theorem aQ.of_same {C:Cls}{i:Nat}{o:Oper}{v:Value}{a a':Act}(hy:aQ P ops md C i o v a) (he:execOp a'.eval o=execOp a.eval o)
  (hw:Region.wanted o (yielded ops a'.tmps)=Region.wanted o (yielded ops a.tmps)):aQ P ops md C i o v a':=by
 unfold aQ at *;rw[he,hw];exact hy
theorem zLn {C:Cls}{L:Act->Prop}{i:Nat}{oi:Oper}{v:Value}(hi:ops[i]?=some oi) (hsel:∀(j:Nat) (o:Oper) cs b,ops[j]?=some o->o.op≠.select cs b) :
  ∀(fuel:Nat) (listed:Array Bool) (a:Act),
   (∀j oj,ops[j]?=some oj->j≠i->listed.getD j true=false->(∀e∈oj.after,Region.binds md e=true->e.on≠i)->oi.apart ops oj=true) ->
   i∈Region.ready md ops listed->aQ P ops md C i oi v a ->
   anyC P ops md C L fuel (listed.setIfInBounds i true) (a.put oi.dst v)->anyC P ops md C L (fuel+1) listed a:=by
 intro fuel
 induction fuel with
 | zero =>
  intro listed a _ hr hy H;refine⟨λh=>(by rw[h]at hr;cases hr),λj hj=>?_⟩;by_cases hji:j=i
  .subst hji;exact⟨oi,v,hi,hy,H⟩
  .have:=ready_mono hj hji
   rw[H.1]at this;cases this
 | succ fuel ih =>
  intro listed a hfree hr hy H;refine⟨λh=>(by rw[h]at hr;cases hr),λj hj=>?_⟩;by_cases hji:j=i
  .subst hji;exact⟨oi,v,hi,hy,H⟩
  .obtain⟨oj,u,hoj,hyj,hK⟩:=H.2 j (ready_mono hj hji)
   obtain⟨hjun,oj',hoj',hall⟩:=mem_ready.1 hj;obtain rfl:oj'=oj:=(by rw[hoj]at hoj';exact (Az3 hoj').symm);have hnot:∀e∈oj'.after,Region.binds md e=true->e.on≠i:=λe he hb heq=>by
    have h1:=hall e he hb;have h0:=(mem_ready.1 hr).1;rw[heq]at h1;rcases Nat.lt_or_ge i listed.size with h'|h'
    .simp[h']at h0 h1;rw[h0]at h1;cases h1
    .simp[Array.getElem?_eq_none h']at h1
   have hap:=hfree j oj' hoj hji hjun hnot;obtain⟨h1,h2,h3⟩:=Oper.apart_spec hap;refine⟨oj',u,hoj,hyj.of_same (execOp_put oj' (λcs b=>hsel j oj' cs b hoj) a oi.dst v h1).symm (wanted_put oj' a oi.dst v h1).symm,?_⟩;have hfree':∀k ok,ops[k]?=some ok->k≠i->(listed.setIfInBounds j true).getD k true=false ->
    (∀e∈ok.after,Region.binds md e=true->e.on≠i)->oi.apart ops ok=true:=λk ok hk hki hun hno=>by
    refine hfree k ok hk hki ?_ hno;by_cases hjk:j=k
    .subst hjk;exact hjun
    .rw[getD_set_ne true hjk]at hun;exact hun
   refine ih (listed.setIfInBounds j true) _ hfree' (ready_mono hr (Ne.symm hji)) (hy.of_same (execOp_put oi (λcs b=>hsel i oi cs b hi) a oj'.dst u h3) (wanted_put oi a oj'.dst u h3)) ?_;rw[Array.setIfInBounds_comm _ _ hji,<-Act.put_comm a v u h2];exact hK
theorem zJw {C:Cls}{L:Act->Prop}(hs:Region.noSelect ops=true):∀(l:List Oper) (k:Nat) (listed:Array Bool) (a:Act),(∀j,l[j]?=ops[k+j]?) ->
  Region.lexFrom md ops l.length k listed=true->wpC P ops md C L l k a->anyC P ops md C L l.length listed a
 | [],_,_,_,_,hB,h=>⟨by simpa [Region.lexFrom] using hB,h⟩
 | o :: l,k,listed,a,hl,hB,h=>by
  have h0:ops[k]?=some o:=by simpa using (hl 0).symm
  simp only[Ax2,Region.lexFrom,Ay2]at hB;obtain⟨⟨hr,hf⟩,hB'⟩:=hB;obtain⟨v,hy,hK⟩:=h;exact zLn h0 (Region.noSelect_spec hs) l.length listed a (Region.free_spec h0 hf) (by simpa using hr) hy
   (zJw hs l (k+1) _ _ (λj=>by have:=hl (j+1);simpa [Av8,Nat.add_comm 1 j] using this) hB' hK)
theorem pC {C:Cls}{L:Act->Prop}(hQ:∀listed a w,Region.ready md ops listed=[]->C listed w->L a->Q .normal a w):∀(fuel:Nat) (listed:Array Bool) (a:Act) (w:World),C listed w ->
  anyC P ops md C L fuel listed a->wpAny P md ops Q fuel listed a w
 | 0,listed,_,_,hw,h=>⟨h.1,hQ _ _ _ h.1 hw h.2⟩
 | fuel+1,listed,a,w,hw,h=>⟨λh0=>hQ _ _ _ h0 hw (h.1 h0),λi hi=>by
  obtain⟨o,v,ho,hy,hK⟩:=h.2 i hi;unfold wpOp;rw[ho];show if Region.wanted o (yielded ops a.tmps)=true then _ else _
  rcases hy with ⟨hwa,hy⟩|⟨hwa,rfl,hC⟩
  .rw[if_pos hwa]
   refine .inl ?_;have h3:=hy listed w hi hw;unfold Oper.wp
   generalize (execOp a.eval o).run P w=r at *
   cases r with
   | ok n w' =>
    cases n <;> simp only[zL7]at h3 <;> simp only[Oper.upon]
    case value u =>
     obtain⟨rfl,e2⟩:=h3;exact pC hQ fuel _ _ _ e2 hK
    case skip =>
     obtain⟨rfl,e2⟩:=h3;exact pC hQ fuel _ _ _ e2 hK
    case enter f args =>
     obtain⟨rfl,hc⟩:=h3;exact hc.mono λe w'' ⟨he,hw''⟩=>by subst he;exact pC hQ fuel _ _ _ hw'' hK
   | halt x w'=>simp only[zL7]at h3
  .rw[if_neg (by rw[hwa];exact Au1)]
   exact pC hQ fuel _ _ _ (hC listed w hi hw) hK⟩
theorem zEv {id:Nat}{l:List Oper}{a:Act}{w:World}(C:Cls) (hm:P.follows .mixedOrders=true) (hB:Region.lexB .any l.toArray=true)
  (hC:C (Array.replicate l.length false) w.drew)
  (h:wpC P l.toArray .any C (λa'=>∀listed w',Region.ready .any l.toArray listed=[]->C listed w'->Q .normal a' w') l 0 a):(Code.region id l.toArray true).wp P Q a w:=by
 simp only[Region.lexB,Ay2]at hB;refine wp_region_any hm (pC (L:=λa'=>∀listed w',Region.ready .any l.toArray listed=[]->C listed w'->Q .normal a' w') (λlisted _ w' hr hw' h=>h listed w' hr hw') _ _ _ _ (by simpa using hC) ?_);have:=zJw (C:=C) (md:=.any) hB.1 l 0 (Array.replicate l.toArray.size false) a sI (by simpa using hB.2) h;simpa using this
theorem zQ {C:Cls}{L:Act->Prop}{i:Nat}{a:Act}(h:L a):wpC P ops md C L [] i a:=h
theorem zPk {C:Cls}{L:Act->Prop}{o:Oper}{rest:List Oper}{i:Nat}{a:Act}(hw:Region.wanted o (yielded ops a.tmps)=false)
  (hC:∀listed w,i∈Region.ready md ops listed->C listed w->C (listed.setIfInBounds i true) w)
  (h:∀K:Act->Prop,(∀a,wpC P ops md C L rest (i+1) a->K a)->K (a.put o.dst undef)):wpC P ops md C L (o :: rest) i a :=
 ⟨undef,.inr ⟨hw,rfl,hC⟩,h _ iE⟩
theorem zH8 {C:Cls}{L:Act->Prop}{o:Oper}{rest:List Oper}{i:Nat}{a:Act}(hw:Region.wanted o (yielded ops a.tmps)=true)
  (hC:∀listed w,i∈Region.ready md ops listed->C listed w->C (listed.setIfInBounds i true) w)
  (h:∀K:Act->Prop,(∀a,wpC P ops md C L rest (i+1) a->K a)->∃v,(∀listed w,i∈Region.ready md ops listed->C listed w->(execOp a.eval o).run P w=.ok (.value v) w)/\K (a.put o.dst v)) :
  wpC P ops md C L (o :: rest) i a:=by
 obtain⟨v,hrun,hK⟩:=h _ iE;exact⟨v,.inl ⟨hw,λlisted w hi hc=>by rw[hrun listed w hi hc];exact⟨rfl,hC listed w hi hc⟩⟩,hK⟩
theorem rq {C:Cls}{L:Act->Prop}{o:Oper}{rest:List Oper}{i:Nat}{a a':Act}{v:Value}(hn:wpC P ops md C L rest (i+1) a')
  (hr:∀listed w,i∈Region.ready md ops listed->C listed w->(execOp a.eval o).run P w=.ok (.value v) w:=by intro _ w' _ hC;go_simp;try with_reducible rfl)
  (ha:a.put o.dst v=a':=by (try go_simp);try with_reducible rfl)
  (hw:Region.wanted o (yielded ops a.tmps)=true:=by exact rfl) (hC:∀listed w,i∈Region.ready md ops listed->C listed w->C (listed.setIfInBounds i true) w:=by exact λ_ _ _ h=>h):wpC P ops md C L (o :: rest) i a :=
 zH8 hw hC λ_ hK=>⟨v,hr,by rw[ha];exact hK _ hn⟩
theorem rf {S F:World->Prop}{L:Act->Prop}{o:Oper}{rest:List Oper}{i:Nat}{a a':Act}{v:Value}(hF:∀w,S w->F w) (hn:wpC P ops md (λ_ w=>S w) L rest (i+1) a')
  (hr:∀w,S w->F w->(execOp a.eval o).run P w=.ok (.value v) w:=by intro w' hC hF;(repeat' (cases hF;rename_i hF));go_simp;try with_reducible rfl)
  (ha:a.put o.dst v=a':=by (try go_simp);try with_reducible rfl)
  (hw:Region.wanted o (yielded ops a.tmps)=true:=by exact rfl):wpC P ops md (λ_ w=>S w) L (o :: rest) i a :=
 zH8 hw (λ_ _ _ h=>h) λ_ hK=>⟨v,λ_ w _ hc=>hr w hc (hF w hc),by rw[ha];exact hK _ hn⟩
theorem sq {C:Cls}{L:Act->Prop}{o:Oper}{rest:List Oper}{i:Nat}{a a':Act}(hn:wpC P ops md C L rest (i+1) a')
  (hw:Region.wanted o (yielded ops a.tmps)=false:=by exact rfl) (ha:a.put o.dst undef=a':=by (try go_simp);try with_reducible rfl)
  (hC:∀listed w,i∈Region.ready md ops listed->C listed w->C (listed.setIfInBounds i true) w:=by exact λ_ _ _ h=>h):wpC P ops md C L (o :: rest) i a :=
 zPk hw hC λ_ hK=>by rw[ha];exact hK _ hn
theorem yS {C:Cls}{L:Act->Prop}{o:Oper}{rest:List Oper}{i:Nat}{a:Act}(hw:Region.wanted o (yielded ops a.tmps)=true) (v:Value) (f:FuncId) (args:Array Value)
  (hrun:∀w,(execOp a.eval o).run P w=.ok (.enter f args) w)
  (hcall:∀listed w,i∈Region.ready md ops listed->C listed w->Calls P f args w (λe w''=>e=.returned v/\C (listed.setIfInBounds i true) w''))
  (h:∀K:Act->Prop,(∀a,wpC P ops md C L rest (i+1) a->K a)->K (a.put o.dst v)):wpC P ops md C L (o :: rest) i a :=
 ⟨v,.inl ⟨hw,λlisted w hi hc=>by rw[hrun w];exact⟨rfl,hcall listed w hi hc⟩⟩,h _ iE⟩
theorem zW {id:Nat}{l:List Oper}{a:Act}{w:World}(C:World->Prop) (hm:P.follows .mixedOrders=true) (hB:Region.lexB .any l.toArray=true)
  (hC:C w.drew) (h:wpC P l.toArray .any (λ_ w=>C w) (λa'=>∀w',C w'->Q .normal a' w') l 0 a):(Code.region id l.toArray true).wp P Q a w:=by
 refine zEv (λ_ w=>C w) hm hB hC ?_;have mono:∀(r:List Oper) (i:Nat) (a:Act) (L L':Act->Prop),(∀a,L a->L' a)->wpC P l.toArray .any (λ_ w=>C w) L r i a->wpC P l.toArray .any (λ_ w=>C w) L' r i a:=by
  intro r
  induction r with
  | nil=>intro i a L L' hL h;exact hL a h
  | cons o r ih =>
   intro i a L L' hL h;obtain⟨v,hy,hK⟩:=h;exact⟨v,hy,ih _ _ _ _ hL hK⟩
 exact mono l 0 a _ _ (λa' ha' _ w' _ hc=>ha' w' hc) h
theorem ws {id:Nat}{l:List Oper}{a:Act}{w:World}{w0:World}(C:World->Prop) (h:wpC P l.toArray .any (λ_ w=>C w) (λa'=>∀w',C w'->Q .normal a' w') l 0 a) (hC:C=(λx=>Cf w0 x):=by exact rfl) (hw:w0=w:=by exact rfl) (hm:P.follows .mixedOrders=true:=by kernel_rfl) (hB:Region.lexB .any l.toArray=true:=by kernel_rfl):(Code.region id l.toArray true).wp P Q a w:=by
 subst hC hw
 exact zW _ hm hB (Chg.refl _ _).drew h
end
end Go.Proofs.YtgnpmceimpjheaaGreat
namespace Go.Proofs.YtgnpmceimpjheaaGreat
open Go.RowKit
theorem own:ownKnob Tryz.prog.godebug=none:=kR
theorem zRz:laidOutB Tryz.prog=true:=kR
abbrev Byte (a:Int):Prop:=0<=a/\a<=255
def zL (Z:List Int):List Value:=Z.map (Value.int .u8)
@[simp] theorem bytesV_length (Z:List Int):(zL Z).length=Z.length:=by simp[zL]
theorem pS (X Y:List Int):zL (X++Y)=zL X++zL Y:=by simp[zL]
theorem sN {Z:List Int}{j:Nat}{u:Value}(h:(zL Z)[j]?=some u):∃a,Z[j]?=some a/\u=.int .u8 a:=by
 simp only[zL,Aw,Option.map_eq_some_iff]at h;obtain⟨a,h1,h2⟩:=h;exact⟨a,h1,h2.symm⟩
theorem bN {Z:List Int}:∀u∈zL Z,u.oneCell'=true:=λu hu=>by
 obtain⟨a,_,rfl⟩:=At0.1 hu
 rfl
structure BytesAt (w:World) (g o:Nat) (Z:List Int):Prop where
 c:∀k a,Z[k]?=some a->w.cell? ⟨g,o+k,none⟩=some (.int .u8 a)/\Byte a
 lt:Z≠[]->g<w.heap.size
theorem BytesAt.chg {S:Nat->Prop}{w w':World}{g o:Nat}{Z:List Int}(h:BytesAt w g o Z) (hc:Chg S w w') (hs:Z≠[]->¬S g):BytesAt w' g o Z :=
 ⟨λk a hk=>⟨hc.cellS (h.c k a hk).1 (hs (by intro e;rw[e]at hk;simp at hk)),(h.c k a hk).2⟩,λhz=>Ay9 (h.lt hz) hc.size⟩
theorem BytesAt.get {w:World}{g o:Nat}{Z:List Int}(h:BytesAt w g o Z) {k:Nat}(hk:k<Z.length):∃a,Z[k]?=some a/\w.cell? ⟨g,o+k,none⟩=some (.int .u8 a)/\0<=a/\a<=255 :=
 ⟨Z[k],sI,(h.c k _ sI).1,(h.c k _ sI).2⟩
theorem BytesAt.byte {w:World}{g o:Nat}{Z:List Int}(h:BytesAt w g o Z):∀a∈Z,Byte a:=λa ha=>by
 obtain⟨k,hk,rfl⟩:=Av9 ha;exact (h.c k _ sI).2
structure Row (w:World) (g:Nat) (C:List Int):Prop where
 c:∀k a,C[k]?=some a->w.cell? ⟨g,k,none⟩=some (.int .u8 a)
 z:∀j,w.frozen? ⟨g,j,none⟩=false
 lt:g<w.heap.size
 byte:∀a∈C,Byte a
theorem Row.chg {S:Nat->Prop}{w w':World}{g:Nat}{C:List Int}(h:Row w g C) (hc:Chg S w w') (hs:¬S g):Row w' g C :=
 ⟨λk a hk=>hc.cellS (h.c k a hk) hs,λj=>(hc.frozen (p:=⟨g,j,none⟩) h.lt hs).trans (h.z j),Ay9 h.lt hc.size,h.byte⟩
theorem Row.bytes {w:World}{g:Nat}{C X:List Int}(h:Row w g C) (hp:X <+: C):BytesAt w g 0 X :=
 ⟨λk a hk=>by
  obtain⟨Y,rfl⟩:=hp;have hk':(X++Y)[k]?=some a:=by rw[Ay8 (Az1.1 hk).1];exact hk
  rw[Ax0];exact⟨h.c k a hk',h.byte a (Az2 hk')⟩,λ_=>h.lt⟩
theorem Row.alloc (w:World) (C:List Int) (e:TypeId) (hb:∀a∈C,Byte a):Row (w.alloc (.cells (zL C).toArray e)) w.heap.size C :=
 ⟨λk a hk=>by
  rw[Az7];simp[zL,hk],λj=>Az8 _ _ _ _,sI,hb⟩
theorem Chg.fresh {w w':World}(h:Chg (λk=>w.heap.size<=k) w w'):Cf w w':=h.mono (λk hk e=>oM)
theorem Chg.any {S:Nat->Prop}{w w':World}(h:Cf w w'):Chg S w w':=h.mono (λ_ _ e=>e.elim)
theorem zA (w:World) (t j:Nat) (v:Value):Chg (·=t) w (w.setCell ⟨t,j,none⟩ v):=Chg.setCell (S:=(·=t)) (p:=⟨t,j,none⟩) (Chg.refl _ w) (.inr rfl) v
theorem sA (b:Nat):∀(vs:List Value) (o:Nat) (w:World),Chg (·=b) w (w.setCells b o vs)
 | [],_,w=>Chg.refl _ w
 | v :: r,o,w=>(zA w b o v).trans (sA b r (o+1) _)
theorem Row.put {w:World}{g:Nat}{C X Y:List Int}(h:Row w g C) (hp:X <+: C) (hl:X.length+Y.length<=C.length) (hY:∀a∈Y,Byte a) :
  ∃C',Row (w.setCells g X.length (zL Y)) g C'/\C'.length=C.length/\X++Y <+: C':=by
 obtain⟨R,rfl⟩:=hp;refine⟨X++Y++R.drop Y.length,⟨λk a hk=>?_,λj=>(World.frozen?_setCells _ _ _ _ _).trans (h.z j),Ay9 h.lt (sA _ _ _ _).size,λa ha=>?_⟩,by simp only[Az0,Av6]at *;omega,⟨_,rfl⟩⟩
 .have hin:∀j,j<(zL Y).length->(w.cell? ⟨g,X.length+j,none⟩).isSome=true:=λj hj=>by
   have hj':X.length+j<(X++R).length:=(by simp only[bytesV_length,Az0]at *;omega);rw[h.c (X.length+j) _ (Az hj')]
   rfl
  by_cases h1:k<X.length
  .rw[World.cell?_setCells_out g (zL Y) X.length w ⟨g,k,none⟩ (λ_ _=>.inl h1)]
   refine h.c k a ?_;rw[Az5,Ay8 h1]at hk;rw[Ay8 h1];exact hk
  .by_cases h2:k<X.length+Y.length
   .obtain⟨j,rfl⟩:∃j,k=X.length+j:=⟨k-X.length,oM⟩
    rw[World.cell?_setCells_in g (zL Y) X.length w hin j sO];rw[Az5,Ax4 oM,Nat.add_sub_cancel_left,Ay8 oM]at hk;have:=(Az1.1 hk).2;simp[zL,this]
   .rw[World.cell?_setCells_out g (zL Y) X.length w ⟨g,k,none⟩ (λ_ _=>.inr sO)]
    refine h.c k a ?_;rw[Ax4 sO,List.getElem?_drop]at hk;rw[Ax4 oM,<-hk]
    congr 1
    simp
    omega
 .simp only[Av2]at ha
  rcases ha with (ha|ha)|ha
  .exact h.byte a (by simp[ha])
  .exact hY a ha
  .exact h.byte a (by simp[List.mem_of_mem_drop ha])
def Own (w:World) (B:Nat) (v:Value) (X:List Int):Prop :=
 (v=.slice none 0 0/\X=[])\/∃(g:Nat) (C:List Int),v=.slice (some ⟨g,0,none⟩) X.length C.length/\B<=g/\Row w g C/\X <+: C/\C.length<=maxLen
theorem Own.chg {S:Nat->Prop}{w w':World}{B:Nat}{v:Value}{X:List Int}(h:Own w B v X) (hc:Chg S w w') (hs:∀g,B<=g->g<w.heap.size->¬S g):Own w' B v X:=by
 rcases h with h|⟨g,C,h1,h2,h3,h4,h5⟩
 .exact .inl h
 .exact .inr ⟨g,C,h1,h2,h3.chg hc (hs g h2 h3.lt),h4,h5⟩
theorem Own.shape {w:World}{B:Nat}{v:Value}{X:List Int}(h:Own w B v X):∃a c,v=.slice a X.length c:=by
 rcases h with ⟨rfl,rfl⟩|⟨g,C,h1,_⟩
 .exact⟨_,_,rfl⟩
 .exact⟨_,_,h1⟩
theorem Own.lower {w:World}{B B':Nat}{v:Value}{X:List Int}(h:Own w B v X) (hB:B'<=B):Own w B' v X:=by
 rcases h with h|⟨g,C,h1,h2,h3⟩
 .exact .inl h
 .exact .inr ⟨g,C,h1,oM,h3⟩
theorem zCv:(Tryz.prog.info? 5).map (λi=>(i.zero,i.size,i.bytes))=some (some (.int .u8 0),1,1):=kR
theorem tN {w:World}{g o:Nat}{Y:List Int}{a:Option Addr}{c:Nat}(h:BytesAt w g o Y) (ha:0<Y.length->a=some ⟨g,o,none⟩):Src Tryz.prog 1 45 (.slice a Y.length c) Y.length (zL Y) w:=by
 cases a with
 | none =>
  have h0:Y=[]:=Aw9.1 (by rcases Aw4 Y.length with h|h;· exact h
                          .cases ha h)
  subst h0;exact Src.ofNil w Tryz.underlying45 c
 | some ad =>
  refine Src.ofSlice w Tryz.underlying45 ad Y.length c (zL Y) sI (λj u hu=>?_) bN;obtain⟨x,hx,rfl⟩:=sN hu;have hj:=(Az1.1 hx).1;obtain rfl:=Az3 (ha oM);rw[Addr.add_lit];exact (h.c j x hx).1
theorem pY (n:Nat):Builtin.zeroCells (Value.int .u8 0).cells n=(zL (List.replicate n 0)).toArray:=by
 apply Array.ext
 .simp[Builtin.zeroCells,Value.cells,zL]
 .intro i h1 h2
  simp[Builtin.zeroCells,Value.cells,zL,Nat.mod_one]
theorem zK4 {w:World}(v:Value) (X:List Int) (base:Option Addr) (cap:Nat) (hv:v=.slice base X.length cap) (hold:∀w':World,Cf w w'->(Builtin.firstCells 1 X.length v).run Tryz.prog w'=.ok (zL X).toArray w')
  (hX:∀a∈X,Byte a) (tx:TypeId) (x:Value) (Y:List Int) (hs:Src Tryz.prog 1 tx x Y.length (zL Y) w) (hY:∀a∈Y,Byte a) (hg:cap<X.length+Y.length) (hlen:X.length+Y.length<=1000000000000) (ty:TypeId) :
  ∃(w':World) (C:List Int),(Builtin.append_ #[45,tx] ty #[v,x]).run Tryz.prog w=.ok (.slice (some ⟨w.heap.size,0,none⟩) (X++Y).length C.length) w'/\Row w' w.heap.size C/\X++Y <+: C/\C.length<=maxLen/\Cf w w':=by
 obtain⟨i,hi,hz,h1,h2⟩:=info_parts zCv;subst hv;have hG:=grownCap_ge w (X.length+Y.length) cap 5;have hG2:=grownCap_le_maxLen w (X.length+Y.length) cap 5 (by unfold maxLen;omega);have hrun:=run_append_grow_src (P:=Tryz.prog) w 45 tx ty 5 i (.int .u8 0) Tryz.underlying45 hi hz base X.length cap (zL X) (by rw[h1];exact hold _ (Chg.refl _ _).drew) x Y.length (zL Y) (by rw[h1];exact hs) hg oM
  (by rw[h2];exact growslice_fits hg oM)
 rw[pY,<-pS,List.append_toArray,<-pS]at hrun;obtain⟨C,hC⟩:∃C,C=X++Y++List.replicate (grownCap w (X.length+Y.length) cap 5-(X.length+Y.length)) 0:=⟨_,rfl⟩;rw[<-hC]at hrun;refine⟨w.drew.alloc (.cells (zL C).toArray 5),C,?_,Row.alloc w.drew _ _ (λa ha=>?_),⟨_,hC.symm⟩,?_,(Chg.refl _ _).drew.alloc _⟩
 all_goals subst hC
 .rw[hrun]
  simp only[Az0,Av3];rw[Nat.add_sub_cancel' hG]
 .simp only[Av2,At3]at ha
  rcases ha with (ha|ha)|⟨_,rfl⟩
  .exact hX a ha
  .exact hY a ha
  .exact⟨oM,oM⟩
 .simp only[Az0,Av3]
  omega
theorem zRr {w:World}{g:Nat}{C X:List Int}(hR:Row w g C) (hp:X <+: C) (tx:TypeId) (x:Value) (Y:List Int) (hs:Src Tryz.prog 1 tx x Y.length (zL Y) w) (hY:∀a∈Y,Byte a) (hl:X.length+Y.length<=C.length) (ty:TypeId) :
  ∃(w':World) (C':List Int),(Builtin.append_ #[45,tx] ty #[.slice (some ⟨g,0,none⟩) X.length C.length,x]).run Tryz.prog w=.ok (.slice (some ⟨g,0,none⟩) (X++Y).length C'.length) w'/\Row w' g C'/\C'.length=C.length/\X++Y <+: C'/\Chg (·=g) w w':=by
 obtain⟨i,hi,hz,h1,h2⟩:=info_parts zCv;obtain⟨C',hR',hl',hp'⟩:=hR.put hp hl hY;have hcell:∀j,j<(zL Y).length->(w.cell? ⟨g,0+X.length * i.size+j,none⟩).isSome=true:=λj hj=>by
  rw[h1,Nat.mul_one,Ax0,hR.c (X.length+j) _ (Az (by simp at hj;omega))]
  rfl
 have hrun:=run_append_room_src (P:=Tryz.prog) w 45 tx ty 5 i Tryz.underlying45 hi g 0 X.length C.length x Y.length (zL Y) (by rw[h1];exact hs) hl hcell (λj _=>hR.z _);refine⟨_,C',?_,hR',hl',hp',sA _ _ _ _⟩;rw[hrun,h1,Nat.mul_one,Ax0,hl',Az0]
theorem Row.first {w:World}{g:Nat}{C X:List Int}(hR:Row w g C) (hp:X <+: C) (cap:Nat) (w':World) (hc:Cf w w'):(Builtin.firstCells 1 X.length (.slice (some ⟨g,0,none⟩) X.length cap)).run Tryz.prog w'=.ok (zL X).toArray w':=by
 have hb:=(hR.bytes hp).chg hc iE;refine run_firstCells_some w' 1 X.length ⟨g,0,none⟩ X.length cap (zL X) sI (λj u hu=>?_);obtain⟨x,hx,rfl⟩:=sN hu;rw[Addr.add_lit];exact (hb.c j x hx).1
theorem Own.append {w:World}{B:Nat}{v:Value}{X:List Int}(h:Own w B v X) (hB:B<=w.heap.size) (tx:TypeId) (x:Value) (Y:List Int) (hs:Src Tryz.prog 1 tx x Y.length (zL Y) w) (hY:∀a∈Y,Byte a) (hlen:X.length+Y.length<=1000000000000) (ty:TypeId) :
  ∃v' w',(Builtin.append_ #[45,tx] ty #[v,x]).run Tryz.prog w=.ok v' w'/\Own w' B v' (X++Y)/\Chg (λk=>B<=k) w w'/\(v'=.slice none 0 0->v=.slice none 0 0):=by
 rcases h with ⟨rfl,rfl⟩|⟨g,C,rfl,hBg,hR,hp,hC⟩
 .rcases Aw4 Y.length with h0|h0
  .have hY0:=Aw9.1 h0
   subst hY0;obtain⟨i,hi,hz,h1,h2⟩:=info_parts zCv;refine⟨_,_,run_append_nothing (P:=Tryz.prog) w 45 tx ty 5 i Tryz.underlying45 hi none 0 0 (Ay _) x (by rw[h1];exact hs),.inl ⟨rfl,rfl⟩,Chg.refl _ _,λ_=>rfl⟩
  .obtain⟨w',C,hrun,hR,hp,hC,hc⟩:=zK4 (.slice none 0 0) [] none 0 rfl (λw' _=>run_firstCells_none w' 1 0 0 0) (λ_ h=>by cases h) tx x Y hs hY sO hlen ty
   exact⟨_,_,hrun,.inr ⟨_,C,rfl,hB,hR,hp,hC⟩,hc.mono (λ_ _ h=>h.elim),λh=>by cases h⟩
 .by_cases hl:X.length+Y.length<=C.length
  .obtain⟨w',C',hrun,hR',hl',hp',hc⟩:=zRr hR hp tx x Y hs hY hl ty
   exact⟨_,_,hrun,.inr ⟨g,C',rfl,hBg,hR',hp',oM⟩,hc.mono (λk _ e=>oM),λh=>by cases h⟩
  .obtain⟨w',C',hrun,hR',hp',hC',hc⟩:=zK4 _ X _ C.length rfl (λw' hc=>hR.first hp _ w' hc) (λa ha=>hR.byte a (hp.subset ha)) tx x Y hs hY oM hlen ty
   exact⟨_,_,hrun,.inr ⟨_,C',rfl,hB,hR',hp',hC'⟩,hc.mono (λ_ _ h=>h.elim),λh=>by cases h⟩
theorem xL {ops:Array Oper}{rest:List Oper}{o:Oper}{a:Act}{w:World}{Q:Exit->Act->World->Prop}(hgd:o.guard=none) (s x:Operand) (tx:TypeId)
  (ho:o.op=.call { callee:=.builtin .append,args:=#[s,x],argTypes:=#[45,tx] }) (B:Nat) (v:Value) (X Y:List Int) (u:Value) (hv:a.eval s=v) (hu:a.eval x=u)
  (h:Own w B v X) (hB:B<=w.heap.size) (hs:Src Tryz.prog 1 tx u Y.length (zL Y) w) (hY:∀a∈Y,Byte a) (hlen:X.length+Y.length<=1000000000000)
  (hK:∀v' w',Hd (Own w' B v' (X++Y))->Hd (Chg (λk=>B<=k) w w')->Hd (v'=.slice none 0 0->v=.slice none 0 0)->wpList Tryz.prog ops Q rest (a.put o.dst v') w'):wpList Tryz.prog ops Q (o :: rest) a w:=by
 obtain⟨v',w',hrun,h1,h2,h3⟩:=h.append hB tx u Y hs hY hlen o.type;exact Lib.wpList_append_run w hgd s x 45 tx ho v u hv hu v' w' hrun (hK v' w' (jh h1) (jh h2) (jh h3))
theorem lit8 (w:World) (Y:List Int) (e:TypeId) (hY:∀a∈Y,Byte a):BytesAt (w.alloc (.cells (zL Y).toArray e)) w.heap.size 0 Y:=(Row.alloc w Y e hY).bytes (Aw6 _)
theorem srcLit {w:World}{Y:List Int}{e:TypeId}(c:Nat) (hY:∀a∈Y,Byte a):Src Tryz.prog 1 45 (.slice (some ⟨w.heap.size,0,none⟩) Y.length c) Y.length (zL Y) (w.alloc (.cells (zL Y).toArray e)):=tN (lit8 w Y e hY) (λ_=>rfl)
end Go.Proofs.YtgnpmceimpjheaaGreat
namespace Go.Proofs.YtgnpmceimpjheaaGreat
open Go.RowKit
structure Elt (α:Type) where
 enc:α->List Value
 sz:Nat
 bs:Nat
 e:TypeId
 sl:TypeId
 z:α
 zv:Value
 ok:α->Prop
 pos:0<sz
 len:∀a,(enc a).length=sz
 one:∀a,∀u∈enc a,u.oneCell'=true
 zok:ok z
 info:(Tryz.prog.info? e).map (λi=>(i.zero,i.size,i.bytes))=some (some zv,sz,bs)
 zc:zv.cells=(enc z).toArray
 und:Tryz.prog.underlying sl=some (.slice e)
 bsl:bs<=100
variable {α:Type}(E:Elt α)
def Elt.encs (L:List α):List Value:=L.flatMap E.enc
theorem Elt.encs_length (L:List α):(E.encs L).length=L.length * E.sz:=by
 induction L with
 | nil=>simp[encs]
 | cons x L ih =>
  have:(E.encs (x :: L))=E.enc x++E.encs L:=rfl;rw[this,Az0,E.len,ih,Ax2,Nat.succ_mul,Nat.add_comm]
theorem Elt.encs_append (X Y:List α):E.encs (X++Y)=E.encs X++E.encs Y:=by simp[encs]
theorem Elt.encs_one (L:List α):∀u∈E.encs L,u.oneCell'=true:=λu hu=>by
 obtain⟨x,_,hx⟩:=List.mem_flatMap.1 hu;exact E.one x u hx
theorem Elt.encs_at:∀{L:List α}{k:Nat}{x:α}{i:Nat}{u:Value},L[k]?=some x->(E.enc x)[i]?=some u->(E.encs L)[k * E.sz+i]?=some u
 | y :: L,0,x,i,u,hk,hi=>by
  simp at hk
  subst hk;have:(E.encs (y :: L))=E.enc y++E.encs L:=rfl;rw[this,Nat.zero_mul,Ax0,Ay8 (Az1.1 hi).1];exact hi
 | y :: L,k+1,x,i,u,hk,hi=>by
  have:(E.encs (y :: L))=E.enc y++E.encs L:=rfl;rw[this,Nat.succ_mul,Ax4 (by rw[E.len];omega),E.len,show k * E.sz+E.sz+i-E.sz=k * E.sz+i by omega];exact encs_at (by simpa using hk) hi
structure Elt.At (w:World) (g o:Nat) (L:List α):Prop where
 c:∀j u,(E.encs L)[j]?=some u->w.cell? ⟨g,o+j,none⟩=some u
 ok:∀x∈L,E.ok x
 lt:L≠[]->g<w.heap.size
variable {E}
theorem Elt.At.chg {S:Nat->Prop}{w w':World}{g o:Nat}{L:List α}(h:E.At w g o L) (hc:Chg S w w') (hs:L≠[]->¬S g):E.At w' g o L :=
 ⟨λj u hj=>hc.cellS (h.c j u hj) (hs (by intro e;rw[e]at hj;simp[encs]at hj)),h.ok,λhz=>Ay9 (h.lt hz) hc.size⟩
theorem Elt.At.get {w:World}{g o:Nat}{L:List α}(h:E.At w g o L) {k:Nat}{x:α}{i:Nat}{u:Value}(hk:L[k]?=some x) (hi:(E.enc x)[i]?=some u):w.cell? ⟨g,o+(k * E.sz+i),none⟩=some u :=
 h.c _ _ (E.encs_at hk hi)
theorem Elt.At.nil (E:Elt α) (w:World) (g o:Nat):E.At w g o []:=⟨λj u h=>by simp[encs]at h,(λ_ h=>by cases h),λh=>(h rfl).elim⟩
structure Elt.Row (E:Elt α) (w:World) (g:Nat) (C:List α):Prop where
 c:∀j u,(E.encs C)[j]?=some u->w.cell? ⟨g,j,none⟩=some u
 z:∀j,w.frozen? ⟨g,j,none⟩=false
 lt:g<w.heap.size
 ok:∀x∈C,E.ok x
theorem Elt.Row.chg {S:Nat->Prop}{w w':World}{g:Nat}{C:List α}(h:E.Row w g C) (hc:Chg S w w') (hs:¬S g):E.Row w' g C :=
 ⟨λk a hk=>hc.cellS (h.c k a hk) hs,λj=>(hc.frozen (p:=⟨g,j,none⟩) h.lt hs).trans (h.z j),Ay9 h.lt hc.size,h.ok⟩
theorem Elt.Row.at' {w:World}{g:Nat}{C X:List α}(h:E.Row w g C) (hp:X <+: C):E.At w g 0 X :=
 ⟨λk a hk=>by
  obtain⟨Y,rfl⟩:=hp;have hk':(E.encs (X++Y))[k]?=some a:=by rw[E.encs_append,Ay8 (Az1.1 hk).1];exact hk
  rw[Ax0];exact h.c k a hk',λx hx=>h.ok x (hp.subset hx),λ_=>h.lt⟩
theorem Elt.Row.alloc (w:World) (C:List α) (e:TypeId) (hb:∀a∈C,E.ok a):E.Row (w.alloc (.cells (E.encs C).toArray e)) w.heap.size C :=
 ⟨λk a hk=>by
  rw[Az7];simp[hk],λj=>Az8 _ _ _ _,sI,hb⟩
theorem Elt.Row.put {w:World}{g:Nat}{C X Y:List α}(h:E.Row w g C) (hp:X <+: C) (hl:X.length+Y.length<=C.length) (hY:∀a∈Y,E.ok a) :
  ∃C',E.Row (w.setCells g (X.length * E.sz) (E.encs Y)) g C'/\C'.length=C.length/\X++Y <+: C':=by
 obtain⟨R,rfl⟩:=hp;have hYR:Y.length<=R.length:=by simp only[Az0]at hl;omega
 obtain⟨R1,R2,rfl,hR1⟩:∃R1 R2,R=R1++R2/\R1.length=Y.length:=⟨R.take Y.length,R.drop Y.length,(List.take_append_drop _ _).symm,by rw[Ax1];omega⟩;have e1:(E.encs R1).length=(E.encs Y).length:=by rw[E.encs_length,E.encs_length,hR1]
 have e2:(E.encs X).length=X.length * E.sz:=E.encs_length X;refine⟨X++Y++R2,⟨λk a hk=>?_,λj=>(World.frozen?_setCells _ _ _ _ _).trans (h.z j),Ay9 h.lt (sA _ _ _ _).size,λa ha=>?_⟩,by simp only[Az0]at *;omega,⟨_,rfl⟩⟩
 .have hin:∀j,j<(E.encs Y).length->(w.cell? ⟨g,X.length * E.sz+j,none⟩).isSome=true:=λj hj=>by
   have hj':X.length * E.sz+j<(E.encs (X++(R1++R2))).length:=(by rw[E.encs_append,E.encs_append,Az0,Az0];omega);rw[h.c (X.length * E.sz+j) _ (Az hj')]
   rfl
  rw[E.encs_append,E.encs_append]at hk;by_cases h1:k<X.length * E.sz
  .rw[World.cell?_setCells_out g (E.encs Y) (X.length * E.sz) w ⟨g,k,none⟩ (λ_ _=>.inl h1)]
   refine h.c k a ?_;rw[Az5,Ay8 oM]at hk;rw[E.encs_append,Ay8 oM];exact hk
  .by_cases h2:k<X.length * E.sz+(E.encs Y).length
   .obtain⟨j,rfl⟩:∃j,k=X.length * E.sz+j:=⟨k-X.length * E.sz,oM⟩
    rw[World.cell?_setCells_in g (E.encs Y) (X.length * E.sz) w hin j oM];rw[Az5,Ax4 oM,e2,Nat.add_sub_cancel_left,Ay8 oM]at hk;have:=(Az1.1 hk).2;simp[this]
   .rw[World.cell?_setCells_out g (E.encs Y) (X.length * E.sz) w ⟨g,k,none⟩ (λ_ _=>.inr (by show X.length * E.sz+(E.encs Y).length<=k;omega))]
    refine h.c k a ?_;rw[Ax4 (by rw[Az0];omega)]at hk;rw[E.encs_append,E.encs_append,<-Az5,Ax4 (by rw[Az0];omega),<-hk,Az0,Az0,e1]
 .simp only[Av2]at ha
  rcases ha with (ha|ha)|ha
  .exact h.ok a (by simp[ha])
  .exact hY a ha
  .exact h.ok a (by simp[ha])
def Elt.Own (E:Elt α) (w:World) (B:Nat) (v:Value) (X:List α):Prop :=
 (v=.slice none 0 0/\X=[])\/∃(g:Nat) (C:List α),v=.slice (some ⟨g,0,none⟩) X.length C.length/\B<=g/\E.Row w g C/\X <+: C/\C.length<=maxLen
theorem Elt.Own.chg {S:Nat->Prop}{w w':World}{B:Nat}{v:Value}{X:List α}(h:E.Own w B v X) (hc:Chg S w w') (hs:∀g,B<=g->g<w.heap.size->¬S g):E.Own w' B v X:=by
 rcases h with h|⟨g,C,h1,h2,h3,h4,h5⟩
 .exact .inl h
 .exact .inr ⟨g,C,h1,h2,h3.chg hc (hs g h2 h3.lt),h4,h5⟩
theorem Elt.Own.chgB {S:Nat->Prop}{w w':World}{B:Nat}{v:Value}{X:List α}(h:E.Own w B v X) (hc:Chg S w w') (hs:∀g,v.ownBlock=some g->¬S g):E.Own w' B v X:=by
 rcases h with h|⟨g,C,h1,h2,h3,h4,h5⟩
 .exact .inl h
 .exact .inr ⟨g,C,h1,h2,h3.chg hc (hs g (by rw[h1];rfl)),h4,h5⟩
theorem Elt.Own.blk {w:World}{B:Nat}{v:Value}{X:List α}(h:E.Own w B v X) {g:Nat}(hg:v.ownBlock=some g):B<=g/\g<w.heap.size:=by
 rcases h with ⟨rfl,_⟩|⟨g',C,rfl,h2,h3,_⟩
 .cases hg
 .obtain rfl:g'=g:=by simpa [Value.ownBlock] using hg
  exact⟨h2,h3.lt⟩
theorem Elt.Own.shape {w:World}{B:Nat}{v:Value}{X:List α}(h:E.Own w B v X):∃a c,v=.slice a X.length c:=by
 rcases h with ⟨rfl,rfl⟩|⟨g,C,h1,_⟩
 .exact⟨_,_,rfl⟩
 .exact⟨_,_,h1⟩
theorem Elt.Own.shape3 {w:World}{B:Nat}{v:Value}{X:List α}(h:E.Own w B v X):∃a n c,v=.slice a n c:=by
 obtain⟨a,c,h⟩:=h.shape;exact⟨a,_,c,h⟩
theorem Elt.Own.lower {w:World}{B B':Nat}{v:Value}{X:List α}(h:E.Own w B v X) (hB:B'<=B):E.Own w B' v X:=by
 rcases h with h|⟨g,C,h1,h2,h3⟩
 .exact .inl h
 .exact .inr ⟨g,C,h1,oM,h3⟩
theorem Elt.Own.nil (w:World) (B:Nat):E.Own w B (.slice none 0 0) []:=.inl ⟨rfl,rfl⟩
theorem Elt.Own.at' {w:World}{B:Nat}{v:Value}{X:List α}(h:E.Own w B v X):∃a g c,v=.slice a X.length c/\X.length<=c/\E.At w g 0 X/\(0<X.length->a=some ⟨g,0,none⟩/\B<=g):=by
 rcases h with ⟨rfl,rfl⟩|⟨g,C,rfl,hB,hR,hp,_⟩
 .exact⟨none,0,0,rfl,sI,.nil _ _ _ _,λh=>by simp at h⟩
 .exact⟨_,g,_,rfl,hp.length_le,hR.at' hp,λ_=>⟨rfl,hB⟩⟩
theorem Elt.At.src {w:World}{g o:Nat}{Y:List α}{a:Option Addr}{c:Nat}(h:E.At w g o Y) (ha:0<Y.length->a=some ⟨g,o,none⟩):Src Tryz.prog E.sz E.sl (.slice a Y.length c) Y.length (E.encs Y) w:=by
 cases a with
 | none =>
  have h0:Y=[]:=Aw9.1 (by rcases Aw4 Y.length with h|h;· exact h
                          .cases ha h)
  subst h0;exact Src.ofNil w E.und c
 | some ad =>
  refine Src.ofSlice w E.und ad Y.length c (E.encs Y) (E.encs_length Y) (λj u hu=>?_) (E.encs_one Y);have h0:0<Y.length:=by
   cases Y with
   | nil=>simp[encs]at hu
   | cons x Y=>simp
  obtain rfl:=Az3 (ha h0);rw[Addr.add_lit];exact h.c j u hu
theorem Elt.encs_rep (x:α):∀(n j:Nat),(E.encs (List.replicate n x))[j]?=if j<n * E.sz then (E.enc x)[j % E.sz]? else none
 | 0,j=>by simp[encs]
 | n+1,j=>by
  have hp:=E.pos;have:E.encs (List.replicate (n+1) x)=E.enc x++E.encs (List.replicate n x):=rfl;rw[this];by_cases h:j<E.sz
  .rw[Ay8 (by rw[E.len];exact h),if_pos (by rw[Nat.succ_mul];omega),Nat.mod_eq_of_lt h]
  .rw[Ax4 (by rw[E.len];omega),E.len,encs_rep x n]
   rw[Nat.succ_mul,show j % E.sz=(j-E.sz) % E.sz from Nat.mod_eq_sub_mod oM];by_cases h2:j<n * E.sz+E.sz
   .rw[if_pos oM,if_pos h2]
   .rw[if_neg oM,if_neg h2]
theorem Elt.zeroCellsE (n:Nat):Builtin.zeroCells E.zv.cells n=(E.encs (List.replicate n E.z)).toArray:=by
 have hp:=E.pos
 apply Array.ext'
 apply List.ext_getElem?
 intro j;rw[E.zc,List.toList_toArray,encs_rep];simp only[Builtin.zeroCells,List.size_toArray,E.len];by_cases h:j<n * E.sz
 .rw[if_pos h]
  have hm:=Nat.mod_lt j hp;simp[h,E.len,hm]
 .rw[if_neg h]
  simp
  omega
theorem Elt.grow {w:World}(v:Value) (X:List α) (base:Option Addr) (cap:Nat) (hv:v=.slice base X.length cap) (hold:∀w':World,Cf w w'->(Builtin.firstCells E.sz X.length v).run Tryz.prog w'=.ok (E.encs X).toArray w')
  (hX:∀a∈X,E.ok a) (tx:TypeId) (x:Value) (Y:List α) (hs:Src Tryz.prog E.sz tx x Y.length (E.encs Y) w) (hY:∀a∈Y,E.ok a) (hg:cap<X.length+Y.length) (hlen:X.length+Y.length<=1000000000000) (ty:TypeId) :
  ∃(w':World) (C:List α),(Builtin.append_ #[E.sl,tx] ty #[v,x]).run Tryz.prog w=.ok (.slice (some ⟨w.heap.size,0,none⟩) (X++Y).length C.length) w'/\E.Row w' w.heap.size C/\X++Y <+: C/\C.length<=maxLen/\Cf w w':=by
 obtain⟨i,hi,hz,h1,h2⟩:=info_parts E.info;subst hv;have hG:=grownCap_ge w (X.length+Y.length) cap E.e;have hG2:=grownCap_le_maxLen w (X.length+Y.length) cap E.e (by unfold maxLen;omega);have hbs:(X.length+Y.length) * E.bs<=1000000000000 * 100:=Nat.mul_le_mul hlen E.bsl;have hrun:=run_append_grow_src (P:=Tryz.prog) w E.sl tx ty E.e i E.zv E.und hi hz base X.length cap (E.encs X) (by rw[h1];exact hold _ (Chg.refl _ _).drew) x Y.length (E.encs Y) (by rw[h1];exact hs) hg oM
  (by rw[h2];exact growslice_fits hg oM)
 rw[zeroCellsE,<-E.encs_append,List.append_toArray,<-E.encs_append]at hrun;obtain⟨C,hC⟩:∃C,C=X++Y++List.replicate (grownCap w (X.length+Y.length) cap E.e-(X.length+Y.length)) E.z:=⟨_,rfl⟩;rw[<-hC]at hrun;refine⟨w.drew.alloc (.cells (E.encs C).toArray E.e),C,?_,Elt.Row.alloc w.drew _ _ (λa ha=>?_),⟨_,hC.symm⟩,?_,(Chg.refl _ _).drew.alloc _⟩
 all_goals subst hC
 .rw[hrun]
  simp only[Az0,Av3];rw[Nat.add_sub_cancel' hG]
 .simp only[Av2,At3]at ha
  rcases ha with (ha|ha)|⟨_,rfl⟩
  .exact hX a ha
  .exact hY a ha
  .exact E.zok
 .simp only[Az0,Av3]
  omega
theorem Elt.room {w:World}{g:Nat}{C X:List α}(hR:E.Row w g C) (hp:X <+: C) (tx:TypeId) (x:Value) (Y:List α) (hs:Src Tryz.prog E.sz tx x Y.length (E.encs Y) w) (hY:∀a∈Y,E.ok a) (hl:X.length+Y.length<=C.length) (ty:TypeId) :
  ∃(w':World) (C':List α),(Builtin.append_ #[E.sl,tx] ty #[.slice (some ⟨g,0,none⟩) X.length C.length,x]).run Tryz.prog w=.ok (.slice (some ⟨g,0,none⟩) (X++Y).length C'.length) w'/\E.Row w' g C'/\C'.length=C.length/\X++Y <+: C'/\Chg (·=g) w w':=by
 obtain⟨i,hi,hz,h1,h2⟩:=info_parts E.info;obtain⟨C',hR',hl',hp'⟩:=hR.put hp hl hY;have hle:X.length * E.sz+Y.length * E.sz<=C.length * E.sz:=by rw[<-Nat.add_mul];exact Nat.mul_le_mul_right _ hl
 have hcell:∀j,j<(E.encs Y).length->(w.cell? ⟨g,0+X.length * i.size+j,none⟩).isSome=true:=λj hj=>by
  rw[h1,Ax0,hR.c (X.length * E.sz+j) _ (Az (by rw[E.encs_length]at hj ⊢;omega))]
  rfl
 have hrun:=run_append_room_src (P:=Tryz.prog) w E.sl tx ty E.e i E.und hi g 0 X.length C.length x Y.length (E.encs Y) (by rw[h1];exact hs) hl hcell (λj _=>hR.z _);refine⟨_,C',?_,hR',hl',hp',sA _ _ _ _⟩;rw[hrun,h1,Ax0,hl',Az0]
theorem Elt.Row.first {w:World}{g:Nat}{C X:List α}(hR:E.Row w g C) (hp:X <+: C) (cap:Nat) (w':World) (hc:Cf w w'):(Builtin.firstCells E.sz X.length (.slice (some ⟨g,0,none⟩) X.length cap)).run Tryz.prog w'=.ok (E.encs X).toArray w':=by
 have hb:=(hR.at' hp).chg hc iE;refine run_firstCells_some w' E.sz X.length ⟨g,0,none⟩ X.length cap (E.encs X) (E.encs_length X) (λj u hu=>?_);rw[Addr.add_lit];exact hb.c j u hu
theorem Elt.Own.append {w:World}{B:Nat}{v:Value}{X:List α}(h:E.Own w B v X) (hB:B<=w.heap.size) (tx:TypeId) (x:Value) (Y:List α) (hs:Src Tryz.prog E.sz tx x Y.length (E.encs Y) w) (hY:∀a∈Y,E.ok a) (hlen:X.length+Y.length<=1000000000000) (ty:TypeId) :
  ∃v' w',(Builtin.append_ #[E.sl,tx] ty #[v,x]).run Tryz.prog w=.ok v' w'/\E.Own w' B v' (X++Y)/\Chg (λk=>B<=k) w w'/\(Chg (λk=>v.ownBlock=some k) w w'/\(v'.ownBlock=v.ownBlock\/v'.ownBlock=some w.heap.size))/\(v'=.slice none 0 0->v=.slice none 0 0):=by
 rcases h with ⟨rfl,rfl⟩|⟨g,C,rfl,hBg,hR,hp,hC⟩
 .rcases Aw4 Y.length with h0|h0
  .have hY0:=Aw9.1 h0
   subst hY0;obtain⟨i,hi,hz,h1,h2⟩:=info_parts E.info;refine⟨_,_,run_append_nothing (P:=Tryz.prog) w E.sl tx ty E.e i E.und hi none 0 0 (Ay _) x (by rw[h1];exact hs),.inl ⟨rfl,rfl⟩,Chg.refl _ _,⟨Chg.refl _ _,.inl rfl⟩,λ_=>rfl⟩
  .obtain⟨w',C,hrun,hR,hp,hC,hc⟩:=Elt.grow (E:=E) (.slice none 0 0) [] none 0 rfl (λw' _=>run_firstCells_none w' E.sz 0 0 0) (λ_ h=>by cases h) tx x Y hs hY sO hlen ty
   exact⟨_,_,hrun,.inr ⟨_,C,rfl,hB,hR,hp,hC⟩,hc.any,⟨hc.any,.inr rfl⟩,λh=>by cases h⟩
 .by_cases hl:X.length+Y.length<=C.length
  .obtain⟨w',C',hrun,hR',hl',hp',hc⟩:=Elt.room hR hp tx x Y hs hY hl ty
   exact⟨_,_,hrun,.inr ⟨g,C',rfl,hBg,hR',hp',oM⟩,hc.mono (λk _ e=>oM),⟨hc.mono (λk _ e=>by subst e;rfl),.inl rfl⟩,λh=>by cases h⟩
  .obtain⟨w',C',hrun,hR',hp',hC',hc⟩:=Elt.grow (E:=E) _ X _ C.length rfl (λw' hc=>hR.first hp _ w' hc) (λa ha=>hR.ok a (hp.subset ha)) tx x Y hs hY oM hlen ty
   exact⟨_,_,hrun,.inr ⟨_,C',rfl,hB,hR',hp',hC'⟩,hc.any,⟨hc.any,.inr rfl⟩,λh=>by cases h⟩
theorem Elt.wpList_append (E:Elt α) {ops:Array Oper}{rest:List Oper}{o:Oper}{a:Act}{w:World}{Q:Exit->Act->World->Prop}(hgd:o.guard=none) (s x:Operand) (tl tx:TypeId) (htl:tl=E.sl)
  (ho:o.op=.call { callee:=.builtin .append,args:=#[s,x],argTypes:=#[tl,tx] }) (B:Nat) (v:Value) (X Y:List α) (u:Value) (hv:a.eval s=v) (hu:a.eval x=u)
  (h:E.Own w B v X) (hB:B<=w.heap.size) (hs:Src Tryz.prog E.sz tx u Y.length (E.encs Y) w) (hY:∀a∈Y,E.ok a) (hlen:X.length+Y.length<=1000000000000)
  (hK:∀v' w',Hd (E.Own w' B v' (X++Y))->Hd (Chg (λk=>B<=k) w w')->Hd (v'=.slice none 0 0->v=.slice none 0 0)->wpList Tryz.prog ops Q rest (a.put o.dst v') w'):wpList Tryz.prog ops Q (o :: rest) a w:=by
 subst htl;obtain⟨v',w',hrun,h1,h2,_,h3⟩:=h.append hB tx u Y hs hY hlen o.type;exact Lib.wpList_append_run w hgd s x E.sl tx ho v u hv hu v' w' hrun (hK v' w' (jh h1) (jh h2) (jh h3))
theorem Elt.wpList_append2 (E:Elt α) {ops:Array Oper}{rest:List Oper}{o:Oper}{a:Act}{w:World}{Q:Exit->Act->World->Prop}(hgd:o.guard=none) (s x:Operand) (tl tx:TypeId) (htl:tl=E.sl)
  (ho:o.op=.call { callee:=.builtin .append,args:=#[s,x],argTypes:=#[tl,tx] }) (B:Nat) (v:Value) (X Y:List α) (u:Value) (hv:a.eval s=v) (hu:a.eval x=u)
  (h:E.Own w B v X) (hB:B<=w.heap.size) (hs:Src Tryz.prog E.sz tx u Y.length (E.encs Y) w) (hY:∀a∈Y,E.ok a) (hlen:X.length+Y.length<=1000000000000)
  (hK:∀v' w',Hd (E.Own w' B v' (X++Y))->Hd (Chg (λk=>B<=k) w w')->Hd (Chg (λk=>v.ownBlock=some k) w w'/\(v'.ownBlock=v.ownBlock\/v'.ownBlock=some w.heap.size))->wpList Tryz.prog ops Q rest (a.put o.dst v') w'):wpList Tryz.prog ops Q (o :: rest) a w:=by
 subst htl;obtain⟨v',w',hrun,h1,h2,h4,h3⟩:=h.append hB tx u Y hs hY hlen o.type;exact Lib.wpList_append_run w hgd s x E.sl tx ho v u hv hu v' w' hrun (hK v' w' (jh h1) (jh h2) (jh h4))
theorem Elt.lit (E:Elt α) (w:World) (Y:List α) (e:TypeId) (hY:∀a∈Y,E.ok a):E.At (w.alloc (.cells (E.encs Y).toArray e)) w.heap.size 0 Y:=(Elt.Row.alloc w Y e hY).at' (Aw6 _)
theorem Elt.srcLit (E:Elt α) {w:World}{Y:List α}{e:TypeId}(c:Nat) (hY:∀a∈Y,E.ok a):Src Tryz.prog E.sz E.sl (.slice (some ⟨w.heap.size,0,none⟩) Y.length c) Y.length (E.encs Y) (w.alloc (.cells (E.encs Y).toArray e)):=(E.lit w Y e hY).src (λ_=>rfl)
theorem Elt.madeCellsE (n:Nat):madeCells E.zv.cells (n * E.sz)=(E.encs (List.replicate n E.z)).toArray:=by
 have hp:=E.pos
 apply Array.ext'
 apply List.ext_getElem?
 intro j;rw[E.zc,List.toList_toArray,encs_rep];by_cases h:j<n * E.sz
 .rw[if_pos h]
  have hm:=Nat.mod_lt j hp;simp[madeCells,h,E.len,hm]
 .rw[if_neg h]
  simp[madeCells]
  omega
theorem Elt.wpList_make (E:Elt α) {ops:Array Oper}{rest:List Oper}{o:Oper}{a:Act}{w:World}{Q:Exit->Act->World->Prop}(hgd:o.guard=none) (l c:Operand) (tl:TypeId) (htl:tl=E.sl) (hop:o.op=Op.makeSlice tl l c)
  (kl kc:IntKind) (L N:Int) (k n:Nat) (hl:a.eval l=.int kl L) (hc:a.eval c=.int kc N) (hL:L=k) (hN:N=n) (hkn:k<=n) (hn:n<=1000000000000)
  (hK:∀w',Hd (E.Row w' w.heap.size (List.replicate n E.z))->Hd (Cf w w')->wpList Tryz.prog ops Q rest (a.put o.dst (.slice (some ⟨w.heap.size,0,none⟩) k n)) w'):wpList Tryz.prog ops Q (o :: rest) a w:=by
 subst hL hN htl;obtain⟨i,hi,hz,h1,h2⟩:=info_parts E.info;have hbs:i.bytes * n<=100 * 1000000000000:=Nat.mul_le_mul (by rw[h2];exact E.bsl) hn;have hr:=run_make (P:=Tryz.prog) w E.sl E.e i E.zv E.und hi hz kl kc k n oM oM (by rw[<-Int.natCast_mul];omega) oM;rw[h1]at hr;simp only[Ay6]at hr;rw[madeCellsE]at hr;refine wpList_plain hgd λK hK'=>?_
 unfold Oper.wp;simp[execOp,hop,hl,hc,hr,Result.andThen]
 exact hK' _ _ (hK _ (jh (Elt.Row.alloc w _ _ (λa ha=>by rw[At3]at ha;rw[ha.2];exact E.zok))) (jh ((Chg.refl _ _).alloc _)))
end Go.Proofs.YtgnpmceimpjheaaGreat
namespace Go.Proofs.YtgnpmceimpjheaaGreat
abbrev RowD:=Int×List (Int×Int)
abbrev TabD:=Int×List RowD×List Int
abbrev kE (n:Int):Prop:=-1<=n/\n<=16777215
def zH4 (L:List Int) (b:Int):Prop:=(L=[]/\b=-1)\/(b∈L/\∀n∈L,L.count n<L.count b\/(L.count n=L.count b/\b<=n))
theorem zH4.unique {L:List Int}{b c:Int}(h:zH4 L b) (k:zH4 L c):b=c:=by
 rcases h with ⟨rfl,rfl⟩|⟨h1,h2⟩ <;> rcases k with ⟨k0,rfl⟩|⟨k1,k2⟩
 .rfl
 .cases k1
 .subst k0;cases h1
 .have:=h2 c k1
  have:=k2 b h1;omega
def pU (L:List Int) (b n:Int):Bool:=decide (L.count b<L.count n\/(L.count n=L.count b/\n<b))
def xA (L:List Int):Int:=L.foldl (λb n=>if pU L b n then n else b) (L.headD (-1))
theorem zB6 (L:List Int):∀(M:List Int) (b:Int),b∈L->(∀n∈M,n∈L) ->
  (M.foldl (λb n=>if pU L b n then n else b) b)∈L/\pU L (M.foldl (λb n=>if pU L b n then n else b) b) b=false/\∀n∈M,pU L (M.foldl (λb n=>if pU L b n then n else b) b) n=false
 | [],b,hb,_=>⟨hb,by simp[pU],λn h=>by cases h⟩
 | m :: M,b,hb,hM=>by
  rw[List.foldl_cons];by_cases h:pU L b m=true
  .rw[if_pos h]
   obtain⟨h1,h2,h3⟩:=zB6 L M m (hM m sI) (λn hn=>hM n (by simp[hn]));refine⟨h1,?_,λn hn=>?_⟩
   .generalize M.foldl (λb n=>if pU L b n then n else b) m=r at *
    simp only[pU,decide_eq_false_iff_not,decide_eq_true_eq]at *;omega
   .rcases Ax3.1 hn with rfl|hn
    .exact h2
    .exact h3 n hn
  .rw[if_neg h]
   obtain⟨h1,h2,h3⟩:=zB6 L M b hb (λn hn=>hM n (by simp[hn]));refine⟨h1,h2,λn hn=>?_⟩;rcases Ax3.1 hn with rfl|hn
   .generalize M.foldl (λb n=>if pU L b n then n else b) b=r at *
    simp only[pU,decide_eq_false_iff_not,decide_eq_true_eq]at *;omega
   .exact h3 n hn
theorem qU (L:List Int):zH4 L (xA L):=by
 cases L with
 | nil=>exact .inl ⟨rfl,rfl⟩
 | cons x L =>
  obtain⟨h1,_,h3⟩:=zB6 (x :: L) (x :: L) x sI (λn h=>h);refine .inr ⟨h1,λn hn=>?_⟩;have h4:pU (x :: L) (xA (x :: L)) n=false:=h3 n hn
  generalize xA (x :: L)=r at h4 ⊢
  simp only[pU,decide_eq_false_iff_not]at h4;omega
def zG (b:Int):Nat->List Int->List (Int×Int)
 | _,[]=>[]
 | k,n :: l=>if n=b then zG b (k+1) l else ((k:Int),n) :: zG b (k+1) l
theorem eS (b:Int):∀(X Y:List Int) (k:Nat),zG b k (X++Y)=zG b k X++zG b (k+X.length) Y
 | [],Y,k=>by simp[zG]
 | x :: X,Y,k=>by
  have ih:=eS b X Y (k+1);rw[show k+1+X.length=k+(x :: X).length by simp;omega]at ih;simp only[Au9,zG,ih]
  split <;> simp
theorem aL (b:Int) (X:List Int) (n:Int) (k:Nat):zG b k (X++[n])=if n=b then zG b k X else zG b k X++[(((k+X.length:Nat):Int),n)]:=by
 rw[eS];simp only[zG]
 split <;> simp
theorem qG (b:Int):∀(X:List Int) (k:Nat),(zG b k X).length+X.count b=X.length
 | [],k=>rfl
 | x :: X,k=>by
  have ih:=qG b X (k+1);simp only[zG,List.count_cons];by_cases h:x=b
  .subst h;simp;omega
  .rw[if_neg h,if_neg (by simpa using h)];simp;omega
theorem uL (b:Int) (X:List Int) (k:Nat):(zG b k X).length<=X.length:=by have:=qG b X k;omega
theorem kN (b:Int):∀(X:List Int) (k:Nat) (n:Int),n≠b->((zG b k X).map (·.2)).count n=X.count n
 | [],k,n,_=>rfl
 | x :: X,k,n,hn=>by
  have ih:=kN b X (k+1) n hn;simp only[zG,List.count_cons];by_cases h:x=b
  .subst h;rw[if_pos rfl,ih,if_neg (by simpa using Ne.symm hn)];simp
  .rw[if_neg h,List.map_cons,List.count_cons,ih]
def rowL (L:List Int):RowD:=(xA L,zG (xA L) 0 L)
def zC8 (r:RowD) (i:Int):Int:=match r.2.find? (λc=>c.1 == i) with
 | some c=>c.2
 | none=>r.1
theorem aG (b:Int):∀(X:List Int) (k j:Nat),(zG b k X).find? (λc=>c.1 == ((j:Nat):Int))=if j<k then none else match X[j-k]? with
  | some n=>if n=b then none else some (((j:Nat):Int),n)
  | none=>none
 | [],k,j=>by simp[zG]
 | x :: X,k,j=>by
  have ih:=aG b X (k+1) j;simp only[zG];by_cases hlt:j<k
  .rw[if_pos hlt]
   rw[if_pos oM]at ih;by_cases h:x=b
   .rw[if_pos h];exact ih
   .rw[if_neg h,List.find?_cons_of_neg sO];exact ih
  .rw[if_neg hlt]
   by_cases he:j=k
   .subst he
    rw[if_pos oM]at ih;simp only[Au0,List.getElem?_cons_zero];by_cases h:x=b
    .rw[if_pos h,if_pos h];exact ih
    .rw[if_neg h,if_neg h,List.find?_cons_of_pos sI]
   .rw[if_neg oM]at ih
    rw[show j-k=j-(k+1)+1 by omega,List.getElem?_cons_succ];by_cases h:x=b
    .rw[if_pos h];exact ih
    .rw[if_neg h,List.find?_cons_of_neg sO];exact ih
theorem zLm (L:List Int) (k:Nat) (n:Int) (h:L[k]?=some n):zC8 (rowL L) k=n:=by
 unfold zC8 rowL;simp only;rw[aG,if_neg oM];simp only[Nat.sub_zero,h];by_cases hb:n=xA L
 .rw[if_pos hb,hb]
 .rw[if_neg hb]
def yQ (W d:Int):Int->List (Int×Int)->Bool
 | _,[]=>true
 | last,c :: l=>decide (last<c.1) && decide (c.1<W) && decide (kE c.2) && !decide (c.2=d) && yQ W d c.1 l
def vU (W:Nat):RowD->Bool
 | (d,cs)=>if W=0 then decide (d=-1) && decide (cs=[])
  else yQ W d (-1) cs && (cs.map (·.2)).all (λn=>decide (((cs.map (·.2)).count n:Int)<(W:Int)-cs.length\/(((cs.map (·.2)).count n:Int)=(W:Int)-cs.length/\d<=n))) && decide (kE d) && decide (0<(W:Int)-cs.length)
theorem aE (b:Int):∀(X:List Int) (k:Nat) (last:Int),last<k->(∀n∈X,kE n)->yQ ((k+X.length:Nat):Int) b last (zG b k X)=true
 | [],k,last,_,_=>rfl
 | x :: X,k,last,hl,hv=>by
  have ih:=aE b X (k+1);simp only[zG];rw[show k+1+X.length=k+(x :: X).length by simp;omega]at ih;by_cases h:x=b
  .rw[if_pos h]
   exact ih last oM (λn hn=>hv n (by simp[hn]))
  .rw[if_neg h]
   simp only[yQ,Ay2,decide_eq_true_eq,Ax8,decide_eq_false_iff_not];have hx:=hv x sI;refine⟨⟨⟨⟨hl,sO⟩,hx⟩,h⟩,ih k oM (λn hn=>hv n (by simp[hn]))⟩
theorem zEe (L:List Int) (hv:∀n∈L,kE n):vU L.length (rowL L)=true:=by
 show vU L.length (xA L,zG (xA L) 0 L)=true;simp only[vU];by_cases h0:L.length=0
 .rw[if_pos h0]
  have:=Aw9.1 h0;subst this
  rfl
 .rw[if_neg h0]
  have hu:=qU L;rcases hu with ⟨rfl,_⟩|⟨hm,hu⟩
  .simp at h0
  .have hlen:=qG (xA L) L 0
   have hpos:0<L.count (xA L):=List.count_pos_iff.2 hm;simp only[Ay2,decide_eq_true_eq,Ax5];refine⟨⟨⟨?_,λn hn=>?_⟩,hv _ hm⟩,oM⟩
   .have:=aE (xA L) L 0 (-1) oM hv
    rwa [Ax0]at this
   .obtain⟨c,hc,rfl⟩:=At0.1 hn
    have hne:c.2≠xA L/\c.2∈L:=by
     clear hlen hn
     generalize xA L=b at *
     generalize 0=k at *
     clear hv hu h0 hpos hm
     induction L generalizing k with
     | nil=>simp[zG]at hc
     | cons x L ih =>
      simp only[zG]at hc;by_cases h:x=b
      .rw[if_pos h]at hc
       exact⟨(ih _ hc).1,by simp[(ih _ hc).2]⟩
      .rw[if_neg h]at hc
       rcases Ax3.1 hc with rfl|hc
       .exact⟨h,sI⟩
       .exact⟨(ih _ hc).1,by simp[(ih _ hc).2]⟩
    rw[kN _ _ _ _ hne.1];have:=hu c.2 hne.2;omega
def bY (W:Nat) (r:RowD):List Int:=r.2.foldl (λvs c=>vs.set c.1.toNat c.2) (List.replicate W r.1)
def sE (d:Int):Nat->List (Int×Int)->Nat->List Int
 | 0,_,_=>[]
 | m+1,cs,k=>match cs with
  | c :: l=>if c.1=k then c.2 :: sE d m l (k+1) else d :: sE d m (c :: l) (k+1)
  | []=>d :: sE d m [] (k+1)
theorem mJ (d:Int):∀(m:Nat) (cs:List (Int×Int)) (k:Nat),(sE d m cs k).length=m
 | 0,_,_=>rfl
 | m+1,[],k=>by simp[sE,mJ d m]
 | m+1,c :: l,k=>by
  simp only[sE]
  split <;> simp[mJ d m]
theorem zDx (d:Int):∀(m k:Nat),sE d m [] k=List.replicate m d
 | 0,_=>rfl
 | m+1,k=>by simp[sE,zDx d m,List.replicate_succ]
theorem nL (d:Int) (W:Int):∀(m:Nat) (cs:List (Int×Int)) (k:Nat),W=((k+m:Nat):Int)->yQ W d ((k:Int)-1) cs=true->zG d k (sE d m cs k)=cs
 | 0,[],k,_,_=>rfl
 | 0,c :: l,k,hW,h=>by
  simp only[yQ,Ay2,decide_eq_true_eq]at h;omega
 | m+1,[],k,hW,_=>by
  have ih:=nL d W m [] (k+1) oM rfl;simp[sE,zG,ih]
 | m+1,c :: l,k,hW,h=>by
  simp only[sE];have hh:=h;simp only[yQ,Ay2,decide_eq_true_eq,Ax8,decide_eq_false_iff_not]at h;obtain⟨⟨⟨⟨h1,h2⟩,h3⟩,h4⟩,h5⟩:=h;by_cases he:c.1=k
  .rw[if_pos he]
   have ih:=nL d W m l (k+1) oM (by rw[show (((k+1:Nat):Int)-1)=c.1 by omega];exact h5);simp only[zG];rw[if_neg h4,ih,<-he]
  .rw[if_neg he]
   have ih:=nL d W m (c :: l) (k+1) oM (by
    simp only[yQ,Ay2,decide_eq_true_eq,Ax8,decide_eq_false_iff_not];exact⟨⟨⟨⟨oM,h2⟩,h3⟩,h4⟩,h5⟩)
   simp only[zG];rw[if_pos trivial,ih]
theorem kA (d:Int) (W:Int) (hd:kE d):∀(m:Nat) (cs:List (Int×Int)) (k:Nat) (last:Int),yQ W d last cs=true->∀n∈sE d m cs k,kE n
 | 0,_,_,_,_,n,hn=>by simp[sE]at hn
 | m+1,[],k,last,_,n,hn=>by
  simp only[sE,Ax3]at hn;rcases hn with rfl|hn
  .exact hd
  .exact kA d W hd m [] (k+1) last rfl n hn
 | m+1,c :: l,k,last,h,n,hn=>by
  have hh:=h;simp only[yQ,Ay2,decide_eq_true_eq,Ax8,decide_eq_false_iff_not]at h;simp only[sE]at hn;by_cases he:c.1=k
  .rw[if_pos he]at hn
   rcases Ax3.1 hn with rfl|hn
   .exact h.1.1.2
   .exact kA d W hd m l (k+1) c.1 h.2 n hn
  .rw[if_neg he]at hn
   rcases Ax3.1 hn with rfl|hn
   .exact hd
   .exact kA d W hd m (c :: l) (k+1) last hh n hn
theorem fW (d W:Int):∀(m:Nat) (cs:List (Int×Int)) (k:Nat) (X:List Int),X.length=k->W=((k+m:Nat):Int)->yQ W d ((k:Int)-1) cs=true ->
  cs.foldl (λvs c=>vs.set c.1.toNat c.2) (X++List.replicate m d)=X++sE d m cs k
 | 0,[],k,X,_,_,_=>by simp[sE]
 | 0,c :: l,k,X,_,hW,h=>by
  simp only[yQ,Ay2,decide_eq_true_eq]at h;omega
 | m+1,[],k,X,_,_,_=>by rw[zDx];rfl
 | m+1,c :: l,k,X,hX,hW,h=>by
  have hh:=h;simp only[yQ,Ay2,decide_eq_true_eq,Ax8,decide_eq_false_iff_not]at h;obtain⟨⟨⟨⟨h1,h2⟩,h3⟩,h4⟩,h5⟩:=h;simp only[sE];by_cases he:c.1=k
  .rw[if_pos he,List.foldl_cons]
   have e1:(X++List.replicate (m+1) d).set c.1.toNat c.2=(X++[c.2])++List.replicate m d:=by
    rw[show c.1.toNat=X.length by omega,List.set_append_right _ _ (Ay _),Au0,List.replicate_succ,List.set_cons_zero];simp
   rw[e1,fW d W m l (k+1) (X++[c.2]) (by simp[hX]) oM (by rw[show (((k+1:Nat):Int)-1)=c.1 by omega];exact h5)];simp
  .rw[if_neg he,List.replicate_succ,show X++d :: List.replicate m d=(X++[d])++List.replicate m d by simp]
   rw[fW d W m (c :: l) (k+1) (X++[d]) (by simp[hX]) oM (by
    simp only[yQ,Ay2,decide_eq_true_eq,Ax8,decide_eq_false_iff_not];exact⟨⟨⟨⟨oM,h2⟩,h3⟩,h4⟩,h5⟩)]
   simp
theorem zC1 {W:Nat}{r:RowD}(h:vU W r=true):(∀c∈r.2,0<=c.1/\c.1<W)/\(∀n∈bY W r,kE n)/\(bY W r).length=W/\rowL (bY W r)=r:=by
 obtain⟨d,cs⟩:=r;simp only[vU]at h;by_cases h0:W=0
 .rw[if_pos h0]at h
  simp only[Ay2,decide_eq_true_eq]at h;obtain⟨rfl,rfl⟩:=h;subst h0;refine⟨(λc hc=>by cases hc),?_,rfl,rfl⟩;intro n hn;cases hn
 .rw[if_neg h0]at h
  simp only[Ay2,decide_eq_true_eq,Ax5]at h;obtain⟨⟨⟨h1,h2⟩,h3⟩,h4⟩:=h;have hf:bY W (d,cs)=sE d W cs 0:=by
   have:=fW d W W cs 0 [] rfl sI (by simpa using h1);simpa [bY] using this
  have hc:=nL d W W cs 0 sI (by simpa using h1);have hlen:=mJ d W cs 0;have hcl:=qG d (sE d W cs 0) 0;rw[hc,hlen]at hcl;have hcnt:∀n,n≠d->(cs.map (·.2)).count n=(sE d W cs 0).count n:=λn hn=>by
   have:=kN d (sE d W cs 0) 0 n hn;rwa [hc]at this
  have hu:zH4 (sE d W cs 0) d:=by
   refine .inr ⟨List.count_pos_iff.1 oM,λn hn=>?_⟩;by_cases he:n=d
   .subst he;omega
   .have h5:=hcnt n he
    have hmem:n∈cs.map (·.2):=List.count_pos_iff.1 (by rw[h5];exact List.count_pos_iff.2 hn);have:=h2 n hmem;rw[h5]at this;omega
  have hue:xA (sE d W cs 0)=d:=(qU _).unique hu;rw[hf];refine⟨λc hcm=>?_,kA d W h3 W cs 0 (-1) h1,hlen,?_⟩
  .have:∀(l:List (Int×Int)) (last:Int),-1<=last->yQ W d last l=true->∀c∈l,0<=c.1/\c.1<W:=by
    intro l
    induction l with
    | nil=>intro _ _ _ c hc;cases hc
    | cons x l ih =>
     intro last hlast hx c hc;simp only[yQ,Ay2,decide_eq_true_eq]at hx;rcases Ax3.1 hc with rfl|hc
     .exact⟨oM,hx.1.1.1.2⟩
     .exact ih x.1 oM hx.2 c hc
   exact this cs (-1) oM h1 c hcm
  .unfold rowL
   rw[hue,hc]
theorem zA0 {W:Nat}{r:RowD}:vU W r=true↔(∀c∈r.2,0<=c.1/\c.1<W)/\(∀n∈bY W r,kE n)/\rowL (bY W r)=r:=by
 refine⟨λh=>⟨(zC1 h).1,(zC1 h).2.1,(zC1 h).2.2.2⟩,λ⟨_,h2,h3⟩=>?_⟩;have hlen:(bY W r).length=W:=by
  have:∀(l:List (Int×Int)) (X:List Int),(l.foldl (λvs c=>vs.set c.1.toNat c.2) X).length=X.length:=by
   intro l
   induction l with
   | nil=>intro X;rfl
   | cons c l ih=>intro X;rw[List.foldl_cons,ih,Au4]
  unfold bY;rw[this,Av3]
 have:=zEe _ h2;rwa [hlen,h3]at this
end Go.Proofs.YtgnpmceimpjheaaGreat
namespace Go.Proofs.YtgnpmceimpjheaaGreat.I
open Go.RowKit
abbrev Byte (a:Int):Prop:=-9223372036854775808<=a/\a<=9223372036854775807
def zL (Z:List Int):List Value:=Z.map (Value.int .i64)
@[simp] theorem bytesV_length (Z:List Int):(zL Z).length=Z.length:=by simp[zL]
theorem pS (X Y:List Int):zL (X++Y)=zL X++zL Y:=by simp[zL]
theorem sN {Z:List Int}{j:Nat}{u:Value}(h:(zL Z)[j]?=some u):∃a,Z[j]?=some a/\u=.int .i64 a:=by
 simp only[zL,Aw,Option.map_eq_some_iff]at h;obtain⟨a,h1,h2⟩:=h;exact⟨a,h1,h2.symm⟩
theorem bN {Z:List Int}:∀u∈zL Z,u.oneCell'=true:=λu hu=>by
 obtain⟨a,_,rfl⟩:=At0.1 hu
 rfl
structure BytesAt (w:World) (g o:Nat) (Z:List Int):Prop where
 c:∀k a,Z[k]?=some a->w.cell? ⟨g,o+k,none⟩=some (.int .i64 a)/\Byte a
 lt:Z≠[]->g<w.heap.size
theorem BytesAt.chg {S:Nat->Prop}{w w':World}{g o:Nat}{Z:List Int}(h:BytesAt w g o Z) (hc:Chg S w w') (hs:Z≠[]->¬S g):BytesAt w' g o Z :=
 ⟨λk a hk=>⟨hc.cellS (h.c k a hk).1 (hs (by intro e;rw[e]at hk;simp at hk)),(h.c k a hk).2⟩,λhz=>Ay9 (h.lt hz) hc.size⟩
theorem BytesAt.get {w:World}{g o:Nat}{Z:List Int}(h:BytesAt w g o Z) {k:Nat}(hk:k<Z.length):∃a,Z[k]?=some a/\w.cell? ⟨g,o+k,none⟩=some (.int .i64 a)/\-9223372036854775808<=a/\a<=9223372036854775807 :=
 ⟨Z[k],sI,(h.c k _ sI).1,(h.c k _ sI).2⟩
theorem BytesAt.byte {w:World}{g o:Nat}{Z:List Int}(h:BytesAt w g o Z):∀a∈Z,Byte a:=λa ha=>by
 obtain⟨k,hk,rfl⟩:=Av9 ha;exact (h.c k _ sI).2
structure Row (w:World) (g:Nat) (C:List Int):Prop where
 c:∀k a,C[k]?=some a->w.cell? ⟨g,k,none⟩=some (.int .i64 a)
 z:∀j,w.frozen? ⟨g,j,none⟩=false
 lt:g<w.heap.size
 byte:∀a∈C,Byte a
theorem Row.chg {S:Nat->Prop}{w w':World}{g:Nat}{C:List Int}(h:Row w g C) (hc:Chg S w w') (hs:¬S g):Row w' g C :=
 ⟨λk a hk=>hc.cellS (h.c k a hk) hs,λj=>(hc.frozen (p:=⟨g,j,none⟩) h.lt hs).trans (h.z j),Ay9 h.lt hc.size,h.byte⟩
theorem Row.bytes {w:World}{g:Nat}{C X:List Int}(h:Row w g C) (hp:X <+: C):BytesAt w g 0 X :=
 ⟨λk a hk=>by
  obtain⟨Y,rfl⟩:=hp;have hk':(X++Y)[k]?=some a:=by rw[Ay8 (Az1.1 hk).1];exact hk
  rw[Ax0];exact⟨h.c k a hk',h.byte a (Az2 hk')⟩,λ_=>h.lt⟩
theorem Row.alloc (w:World) (C:List Int) (e:TypeId) (hb:∀a∈C,Byte a):Row (w.alloc (.cells (zL C).toArray e)) w.heap.size C :=
 ⟨λk a hk=>by
  rw[Az7];simp[zL,hk],λj=>Az8 _ _ _ _,sI,hb⟩
theorem Row.put {w:World}{g:Nat}{C X Y:List Int}(h:Row w g C) (hp:X <+: C) (hl:X.length+Y.length<=C.length) (hY:∀a∈Y,Byte a) :
  ∃C',Row (w.setCells g X.length (zL Y)) g C'/\C'.length=C.length/\X++Y <+: C':=by
 obtain⟨R,rfl⟩:=hp;refine⟨X++Y++R.drop Y.length,⟨λk a hk=>?_,λj=>(World.frozen?_setCells _ _ _ _ _).trans (h.z j),Ay9 h.lt (sA _ _ _ _).size,λa ha=>?_⟩,by simp only[Az0,Av6]at *;omega,⟨_,rfl⟩⟩
 .have hin:∀j,j<(zL Y).length->(w.cell? ⟨g,X.length+j,none⟩).isSome=true:=λj hj=>by
   have hj':X.length+j<(X++R).length:=(by simp only[bytesV_length,Az0]at *;omega);rw[h.c (X.length+j) _ (Az hj')]
   rfl
  by_cases h1:k<X.length
  .rw[World.cell?_setCells_out g (zL Y) X.length w ⟨g,k,none⟩ (λ_ _=>.inl h1)]
   refine h.c k a ?_;rw[Az5,Ay8 h1]at hk;rw[Ay8 h1];exact hk
  .by_cases h2:k<X.length+Y.length
   .obtain⟨j,rfl⟩:∃j,k=X.length+j:=⟨k-X.length,oM⟩
    rw[World.cell?_setCells_in g (zL Y) X.length w hin j sO];rw[Az5,Ax4 oM,Nat.add_sub_cancel_left,Ay8 oM]at hk;have:=(Az1.1 hk).2;simp[zL,this]
   .rw[World.cell?_setCells_out g (zL Y) X.length w ⟨g,k,none⟩ (λ_ _=>.inr sO)]
    refine h.c k a ?_;rw[Ax4 sO,List.getElem?_drop]at hk;rw[Ax4 oM,<-hk]
    congr 1
    simp
    omega
 .simp only[Av2]at ha
  rcases ha with (ha|ha)|ha
  .exact h.byte a (by simp[ha])
  .exact hY a ha
  .exact h.byte a (by simp[List.mem_of_mem_drop ha])
def Own (w:World) (B:Nat) (v:Value) (X:List Int):Prop :=
 (v=.slice none 0 0/\X=[])\/∃(g:Nat) (C:List Int),v=.slice (some ⟨g,0,none⟩) X.length C.length/\B<=g/\Row w g C/\X <+: C/\C.length<=maxLen
theorem Own.shape {w:World}{B:Nat}{v:Value}{X:List Int}(h:Own w B v X):∃a c,v=.slice a X.length c:=by
 rcases h with ⟨rfl,rfl⟩|⟨g,C,h1,_⟩
 .exact⟨_,_,rfl⟩
 .exact⟨_,_,h1⟩
theorem zCv:(Tryz.prog.info? 3).map (λi=>(i.zero,i.size,i.bytes))=some (some (.int .i64 0),1,8):=kR
theorem tN {w:World}{g o:Nat}{Y:List Int}{a:Option Addr}{c:Nat}(h:BytesAt w g o Y) (ha:0<Y.length->a=some ⟨g,o,none⟩):Src Tryz.prog 1 25 (.slice a Y.length c) Y.length (zL Y) w:=by
 cases a with
 | none =>
  have h0:Y=[]:=Aw9.1 (by rcases Aw4 Y.length with h|h;· exact h
                          .cases ha h)
  subst h0;exact Src.ofNil w Tryz.underlying25 c
 | some ad =>
  refine Src.ofSlice w Tryz.underlying25 ad Y.length c (zL Y) sI (λj u hu=>?_) bN;obtain⟨x,hx,rfl⟩:=sN hu;have hj:=(Az1.1 hx).1;obtain rfl:=Az3 (ha oM);rw[Addr.add_lit];exact (h.c j x hx).1
theorem pY (n:Nat):Builtin.zeroCells (Value.int .i64 0).cells n=(zL (List.replicate n 0)).toArray:=by
 apply Array.ext
 .simp[Builtin.zeroCells,Value.cells,zL]
 .intro i h1 h2
  simp[Builtin.zeroCells,Value.cells,zL,Nat.mod_one]
theorem zK4 {w:World}(v:Value) (X:List Int) (base:Option Addr) (cap:Nat) (hv:v=.slice base X.length cap) (hold:∀w':World,Cf w w'->(Builtin.firstCells 1 X.length v).run Tryz.prog w'=.ok (zL X).toArray w')
  (hX:∀a∈X,Byte a) (tx:TypeId) (x:Value) (Y:List Int) (hs:Src Tryz.prog 1 tx x Y.length (zL Y) w) (hY:∀a∈Y,Byte a) (hg:cap<X.length+Y.length) (hlen:X.length+Y.length<=1000000000000) (ty:TypeId) :
  ∃(w':World) (C:List Int),(Builtin.append_ #[25,tx] ty #[v,x]).run Tryz.prog w=.ok (.slice (some ⟨w.heap.size,0,none⟩) (X++Y).length C.length) w'/\Row w' w.heap.size C/\X++Y <+: C/\C.length<=maxLen/\Cf w w':=by
 obtain⟨i,hi,hz,h1,h2⟩:=info_parts zCv;subst hv;have hG:=grownCap_ge w (X.length+Y.length) cap 3;have hG2:=grownCap_le_maxLen w (X.length+Y.length) cap 3 (by unfold maxLen;omega);have hrun:=run_append_grow_src (P:=Tryz.prog) w 25 tx ty 3 i (.int .i64 0) Tryz.underlying25 hi hz base X.length cap (zL X) (by rw[h1];exact hold _ (Chg.refl _ _).drew) x Y.length (zL Y) (by rw[h1];exact hs) hg oM
  (by rw[h2];exact growslice_fits hg oM)
 rw[pY,<-pS,List.append_toArray,<-pS]at hrun;obtain⟨C,hC⟩:∃C,C=X++Y++List.replicate (grownCap w (X.length+Y.length) cap 3-(X.length+Y.length)) 0:=⟨_,rfl⟩;rw[<-hC]at hrun;refine⟨w.drew.alloc (.cells (zL C).toArray 3),C,?_,Row.alloc w.drew _ _ (λa ha=>?_),⟨_,hC.symm⟩,?_,(Chg.refl _ _).drew.alloc _⟩
 all_goals subst hC
 .rw[hrun]
  simp only[Az0,Av3];rw[Nat.add_sub_cancel' hG]
 .simp only[Av2,At3]at ha
  rcases ha with (ha|ha)|⟨_,rfl⟩
  .exact hX a ha
  .exact hY a ha
  .exact⟨oM,oM⟩
 .simp only[Az0,Av3]
  omega
theorem zRr {w:World}{g:Nat}{C X:List Int}(hR:Row w g C) (hp:X <+: C) (tx:TypeId) (x:Value) (Y:List Int) (hs:Src Tryz.prog 1 tx x Y.length (zL Y) w) (hY:∀a∈Y,Byte a) (hl:X.length+Y.length<=C.length) (ty:TypeId) :
  ∃(w':World) (C':List Int),(Builtin.append_ #[25,tx] ty #[.slice (some ⟨g,0,none⟩) X.length C.length,x]).run Tryz.prog w=.ok (.slice (some ⟨g,0,none⟩) (X++Y).length C'.length) w'/\Row w' g C'/\C'.length=C.length/\X++Y <+: C'/\Chg (·=g) w w':=by
 obtain⟨i,hi,hz,h1,h2⟩:=info_parts zCv;obtain⟨C',hR',hl',hp'⟩:=hR.put hp hl hY;have hcell:∀j,j<(zL Y).length->(w.cell? ⟨g,0+X.length * i.size+j,none⟩).isSome=true:=λj hj=>by
  rw[h1,Nat.mul_one,Ax0,hR.c (X.length+j) _ (Az (by simp at hj;omega))]
  rfl
 have hrun:=run_append_room_src (P:=Tryz.prog) w 25 tx ty 3 i Tryz.underlying25 hi g 0 X.length C.length x Y.length (zL Y) (by rw[h1];exact hs) hl hcell (λj _=>hR.z _);refine⟨_,C',?_,hR',hl',hp',sA _ _ _ _⟩;rw[hrun,h1,Nat.mul_one,Ax0,hl',Az0]
theorem Row.first {w:World}{g:Nat}{C X:List Int}(hR:Row w g C) (hp:X <+: C) (cap:Nat) (w':World) (hc:Cf w w'):(Builtin.firstCells 1 X.length (.slice (some ⟨g,0,none⟩) X.length cap)).run Tryz.prog w'=.ok (zL X).toArray w':=by
 have hb:=(hR.bytes hp).chg hc iE;refine run_firstCells_some w' 1 X.length ⟨g,0,none⟩ X.length cap (zL X) sI (λj u hu=>?_);obtain⟨x,hx,rfl⟩:=sN hu;rw[Addr.add_lit];exact (hb.c j x hx).1
theorem Own.append {w:World}{B:Nat}{v:Value}{X:List Int}(h:Own w B v X) (hB:B<=w.heap.size) (tx:TypeId) (x:Value) (Y:List Int) (hs:Src Tryz.prog 1 tx x Y.length (zL Y) w) (hY:∀a∈Y,Byte a) (hlen:X.length+Y.length<=1000000000000) (ty:TypeId) :
  ∃v' w',(Builtin.append_ #[25,tx] ty #[v,x]).run Tryz.prog w=.ok v' w'/\Own w' B v' (X++Y)/\Chg (λk=>B<=k) w w'/\(v'=.slice none 0 0->v=.slice none 0 0):=by
 rcases h with ⟨rfl,rfl⟩|⟨g,C,rfl,hBg,hR,hp,hC⟩
 .rcases Aw4 Y.length with h0|h0
  .have hY0:=Aw9.1 h0
   subst hY0;obtain⟨i,hi,hz,h1,h2⟩:=info_parts zCv;refine⟨_,_,run_append_nothing (P:=Tryz.prog) w 25 tx ty 3 i Tryz.underlying25 hi none 0 0 (Ay _) x (by rw[h1];exact hs),.inl ⟨rfl,rfl⟩,Chg.refl _ _,λ_=>rfl⟩
  .obtain⟨w',C,hrun,hR,hp,hC,hc⟩:=zK4 (.slice none 0 0) [] none 0 rfl (λw' _=>run_firstCells_none w' 1 0 0 0) (λ_ h=>by cases h) tx x Y hs hY sO hlen ty
   exact⟨_,_,hrun,.inr ⟨_,C,rfl,hB,hR,hp,hC⟩,hc.mono (λ_ _ h=>h.elim),λh=>by cases h⟩
 .by_cases hl:X.length+Y.length<=C.length
  .obtain⟨w',C',hrun,hR',hl',hp',hc⟩:=zRr hR hp tx x Y hs hY hl ty
   exact⟨_,_,hrun,.inr ⟨g,C',rfl,hBg,hR',hp',oM⟩,hc.mono (λk _ e=>oM),λh=>by cases h⟩
  .obtain⟨w',C',hrun,hR',hp',hC',hc⟩:=zK4 _ X _ C.length rfl (λw' hc=>hR.first hp _ w' hc) (λa ha=>hR.byte a (hp.subset ha)) tx x Y hs hY oM hlen ty
   exact⟨_,_,hrun,.inr ⟨_,C',rfl,hB,hR',hp',hC'⟩,hc.mono (λ_ _ h=>h.elim),λh=>by cases h⟩
theorem xL {ops:Array Oper}{rest:List Oper}{o:Oper}{a:Act}{w:World}{Q:Exit->Act->World->Prop}(hgd:o.guard=none) (s x:Operand) (tx:TypeId)
  (ho:o.op=.call { callee:=.builtin .append,args:=#[s,x],argTypes:=#[25,tx] }) (B:Nat) (v:Value) (X Y:List Int) (u:Value) (hv:a.eval s=v) (hu:a.eval x=u)
  (h:Own w B v X) (hB:B<=w.heap.size) (hs:Src Tryz.prog 1 tx u Y.length (zL Y) w) (hY:∀a∈Y,Byte a) (hlen:X.length+Y.length<=1000000000000)
  (hK:∀v' w',Hd (Own w' B v' (X++Y))->Hd (Chg (λk=>B<=k) w w')->Hd (v'=.slice none 0 0->v=.slice none 0 0)->wpList Tryz.prog ops Q rest (a.put o.dst v') w'):wpList Tryz.prog ops Q (o :: rest) a w:=by
 obtain⟨v',w',hrun,h1,h2,h3⟩:=h.append hB tx u Y hs hY hlen o.type;exact Lib.wpList_append_run w hgd s x 25 tx ho v u hv hu v' w' hrun (hK v' w' (jh h1) (jh h2) (jh h3))
theorem zKu (n:Nat):madeCells (Value.int .i64 0).cells n=(zL (List.replicate n 0)).toArray:=by
 apply Array.ext
 .simp[madeCells,Value.cells,zL]
 .intro i h1 h2
  simp[madeCells,Value.cells,zL,Nat.mod_one]
theorem zF0 {ops:Array Oper}{rest:List Oper}{o:Oper}{a:Act}{w:World}{Q:Exit->Act->World->Prop}(hgd:o.guard=none) (l c:Operand) (hop:o.op=Op.makeSlice 25 l c)
  (kl kc:IntKind) (L N:Int) (k n:Nat) (hl:a.eval l=.int kl L) (hc:a.eval c=.int kc N) (hL:L=k) (hN:N=n) (hkn:k<=n) (hn:n<=1000000000000)
  (hK:∀w',Hd (Row w' w.heap.size (List.replicate n 0))->Hd (Cf w w')->wpList Tryz.prog ops Q rest (a.put o.dst (.slice (some ⟨w.heap.size,0,none⟩) k n)) w'):wpList Tryz.prog ops Q (o :: rest) a w:=by
 subst hL hN;obtain⟨i,hi,hz,h1,h2⟩:=info_parts zCv;have hr:=run_make (P:=Tryz.prog) w 25 3 i (.int .i64 0) Tryz.underlying25 hi hz kl kc k n oM oM (by rw[h2];omega) oM;rw[h1]at hr;simp only[Ay6,Nat.mul_one]at hr;rw[zKu]at hr;refine wpList_plain hgd λK hK'=>?_
 unfold Oper.wp;simp[execOp,hop,hl,hc,hr,Result.andThen]
 exact hK' _ _ (hK _ (jh (Row.alloc w _ _ (λa ha=>by rw[At3]at ha;rw[ha.2];exact⟨oM,oM⟩))) (jh ((Chg.refl _ _).alloc _)))
end Go.Proofs.YtgnpmceimpjheaaGreat.I
namespace Go.Proofs.YtgnpmceimpjheaaGreat.I
open Go.RowKit
theorem zEz (X Y:List Int) (ax ay:Option Addr) (gx ox gy oy cx cy:Nat) (w:World) (hx:BytesAt w gx ox X) (hax:0<X.length->ax=some ⟨gx,ox,none⟩) (hy:BytesAt w gy oy Y) (hay:0<Y.length->ay=some ⟨gy,oy,none⟩) (hl:X.length<=1000000000000) :
  Calls Tryz.prog 99 #[.slice ax X.length cx,.slice ay Y.length cy] w λe w'=>e=.returned (.bool (decide (X=Y)))/\Cf w w':=by
 have HX:=jh hx;have HY:=jh hy;have HAX:=jh hax;have HAY:=jh hay;clear hx hy hax hay;by_cases hxy:X.length=Y.length
 .have b10:((X.length:Int) != (Y.length:Int))=false:=by simp[hxy]
  go_enter Tryz.func99,Tryz.ntmps99
  go_wp2
  go_loopw [5] (λi wr=>∃k:Nat,k<=X.length/\i=.int .i64 k/\Cf w wr/\X.take k=Y.take k) (λi _=>X.length-(intOf i).toNat)
  case atStart=>exact⟨0,oM,rfl,Chg.refl _ _,sI⟩
  case round =>
   obtain⟨k,hk,rfl,hc,he⟩:=hrel;have HC:=jh hc;have HE:=jh he;clear hc he;by_cases hkl:k<X.length
   .have b14:decide ((k:Int)<(X.length:Int))=true:=by simp;omega
    obtain⟨p,hp,c1,p0,p1⟩:=(HX.o.chg HC.o iE).get hkl;obtain⟨q,hq,c2,q0,q1⟩:=(HY.o.chg HC.o iE).get (k:=k) oM;have e1:=HAX.o oM;have e2:=HAY.o oM;subst e1 e2;have HP:=jh hp;have HQ:=jh hq;clear hp hq;by_cases hpq:p=q
    .subst hpq
     have HT:Hd (X.take (k+1)=Y.take (k+1)):=jh (by rw[Ay1,Ay1,HE.o,HP.o,HQ.o]);clear HE HP HQ;go_upto_region 6 with (fail)
     go_still kR
     go_wp2;go_roundw
     case rel=>exact⟨k+1,oM,by go_num,HC.o.drew,HT.o⟩
     case measure=>simp[intOf];omega
    .have b25:(p != q)=true:=by simpa using hpq
     have HD:Hd (decide (X=Y)=false):=jh (by
      apply decide_eq_false
      intro h;rw[h,HQ.o]at HP;exact hpq (Az3 HP.o).symm)
     clear HE HP HQ hpq;go_upto_region 6 with (fail)
     go_still kR
     go_wp2;go_ret
     exact⟨by rw[HD.o];rfl,HC.o.drew⟩
   .obtain rfl:k=X.length:=oM
    have HD:Hd (decide (X=Y)=true):=jh (by
     have:=HE.o;rw[Ay5,hxy,Ay5]at this;simp[this])
    clear HE;go_wp2;go_ret
    exact⟨by rw[HD.o];rfl,HC.o⟩
 .have b10:((X.length:Int) != (Y.length:Int))=true:=by simp;omega
  have HD:Hd (decide (X=Y)=false):=jh (by
   apply decide_eq_false
   intro h;exact hxy (by rw[h]))
  go_enter Tryz.func99,Tryz.ntmps99
  go_wp2;go_ret
  exact⟨by rw[HD.o];rfl,Chg.refl _ _⟩
end Go.Proofs.YtgnpmceimpjheaaGreat.I
namespace Go.Proofs.YtgnpmceimpjheaaGreat
open Go.RowKit
abbrev Sl:=Option Addr×Nat×Nat
def slV (s:Sl):Value:=.slice s.1 s.2.1 s.2.2
abbrev zJj (c:Int×Int):Prop:=I.Byte c.1/\I.Byte c.2
def uW (c:Int×Int):List Value:=[.int .i64 c.1,.int .i64 c.2]
def zEh (x:Int×Sl):List Value:=[.int .i64 x.1,slV x.2]
def vN:Elt (Int×Int) where
 enc:=uW
 sz:=2
 bs:=16
 e:=246
 sl:=239
 z:=(0,0)
 zv:=.agg #[.int .i64 0,.int .i64 0]
 ok:=zJj
 pos:=oM
 len:=λ_=>rfl
 one:=λa u hu=>by
  simp only[uW,Ax3,Av0,or_false]at hu;rcases hu with rfl|rfl <;> rfl
 zok:=dE
 info:=kR
 zc:=rfl
 und:=kR
 bsl:=oM
def kQ:Elt (Int×Int) where
 enc:=uW
 sz:=2
 bs:=16
 e:=238
 sl:=234
 z:=(0,0)
 zv:=.agg #[.int .i64 0,.int .i64 0]
 ok:=zJj
 pos:=oM
 len:=λ_=>rfl
 one:=λa u hu=>by
  simp only[uW,Ax3,Av0,or_false]at hu;rcases hu with rfl|rfl <;> rfl
 zok:=dE
 info:=kR
 zc:=rfl
 und:=kR
 bsl:=oM
def rowE:Elt (Int×Sl) where
 enc:=zEh
 sz:=2
 bs:=32
 e:=241
 sl:=199
 z:=(0,none,0,0)
 zv:=.agg #[.int .i64 0,.slice none 0 0]
 ok:=λx=>I.Byte x.1
 pos:=oM
 len:=λ_=>rfl
 one:=λa u hu=>by
  simp only[zEh,Ax3,Av0,or_false]at hu;rcases hu with rfl|rfl <;> rfl
 zok:=dE
 info:=kR
 zc:=rfl
 und:=kR
 bsl:=oM
def rowR:Elt (Int×Sl) where
 enc:=zEh
 sz:=2
 bs:=32
 e:=236
 sl:=192
 z:=(0,none,0,0)
 zv:=.agg #[.int .i64 0,.slice none 0 0]
 ok:=λx=>I.Byte x.1
 pos:=oM
 len:=λ_=>rfl
 one:=λa u hu=>by
  simp only[zEh,Ax3,Av0,or_false]at hu;rcases hu with rfl|rfl <;> rfl
 zok:=dE
 info:=kR
 zc:=rfl
 und:=kR
 bsl:=oM
def nW:Elt Sl where
 enc:=λs=>[slV s]
 sz:=1
 bs:=24
 e:=25
 sl:=26
 z:=(none,0,0)
 zv:=.slice none 0 0
 ok:=λ_=>True
 pos:=oM
 len:=λ_=>rfl
 one:=λa u hu=>by
  simp only[Ax3,Av0,or_false]at hu;subst hu;rfl
 zok:=trivial
 info:=kR
 zc:=rfl
 und:=kR
 bsl:=oM
variable {α:Type}{E:Elt α}
def Elt.In (E:Elt α) (w:World) (B:Nat) (s:Sl) (L:List α):Prop :=
 s.2.1=L.length/\s.2.1<=s.2.2/\∃g o,E.At w g o L/\(0<L.length->s.1=some ⟨g,o,none⟩/\B<=g)
theorem Elt.In.chg {S:Nat->Prop}{w w':World}{B:Nat}{s:Sl}{L:List α}(h:E.In w B s L) (hc:Chg S w w') (hs:∀g o,s.1=some ⟨g,o,none⟩->¬S g):E.In w' B s L:=by
 obtain⟨h1,h2,g,o,h3,h4⟩:=h;exact⟨h1,h2,g,o,h3.chg hc (λhne=>hs g o (h4 (by cases L with
  | nil=>exact absurd rfl hne
  | cons x L=>simp)).1),h4⟩
theorem Elt.In.same {w w':World}{B:Nat}{s:Sl}{L:List α}(h:E.In w B s L) (hc:Cf w w'):E.In w' B s L:=h.chg hc (λ_ _ _ h=>h)
theorem Elt.In.lower {w:World}{B B':Nat}{s:Sl}{L:List α}(h:E.In w B s L) (hB:B'<=B):E.In w B' s L:=by
 obtain⟨h1,h2,g,o,h3,h4⟩:=h;exact⟨h1,h2,g,o,h3,λhp=>⟨(h4 hp).1,Ay4 hB (h4 hp).2⟩⟩
theorem Elt.In.nil (E:Elt α) (w:World) (B:Nat):E.In w B (none,0,0) []:=⟨rfl,Ay _,0,0,.nil _ _ _ _,λh=>absurd h sI⟩
theorem Elt.Own.in' {w:World}{B:Nat}{a:Option Addr}{n c c':Nat}{X:List α}(h:E.Own w B (.slice a n c) X) (hc:n<=c'):E.In w B (a,n,c') X:=by
 obtain⟨a',g,c2,h1,h2,h3,h4⟩:=h.at';injection h1 with e1 e2 e3;subst e1 e2 e3;exact⟨rfl,hc,g,0,h3,h4⟩
theorem Elt.In.get2 {w:World}{B:Nat}{a:Option Addr}{n c:Nat}{L:List α}(h:E.In w B (a,n,c) L) (hz:E.sz=2) {k:Nat}(hk:k<L.length):∃(x:α) (g o:Nat) (u v:Value),L[k]?=some x/\a=some ⟨g,o,none⟩/\E.enc x=[u,v]/\w.cell? ⟨g,o+k * 2,none⟩=some u/\w.cell? ⟨g,o+k * 2+1,none⟩=some v/\E.ok x/\B<=g/\g<w.heap.size:=by
 obtain⟨h1,h2,g,o,h3,h4⟩:=h;obtain⟨h4,h5⟩:=h4 oM;have hx:L[k]?=some L[k]:=Az hk;have hl:=E.len L[k];rw[hz]at hl
 match he:E.enc L[k],hl with
 | [u,v],_ =>
  have c0:=h3.get hx (i:=0) (u:=u) (by rw[he];rfl);have c1:=h3.get hx (i:=1) (u:=v) (by rw[he];rfl);rw[hz]at c0 c1;exact⟨_,g,o,u,v,hx,h4,he,by simpa using c0,by rw[Av8];exact c1,h3.ok _ (List.getElem_mem _),h5,h3.lt (by intro e;rw[e]at hk;simp at hk)⟩
def kS (E:Elt (Int×Int)) (w:World) (B:Nat) (x:Int×Sl) (r:RowD):Prop:=x.1=r.1/\I.Byte r.1/\E.In w B x.2 r.2
theorem kS.chg {E:Elt (Int×Int)}{S:Nat->Prop}{w w':World}{B:Nat}{x:Int×Sl}{r:RowD}(h:kS E w B x r) (hc:Chg S w w') (hs:∀g o,x.2.1=some ⟨g,o,none⟩->¬S g):kS E w' B x r:=⟨h.1,h.2.1,h.2.2.chg hc hs⟩
theorem kS.same {E:Elt (Int×Int)}{w w':World}{B:Nat}{x:Int×Sl}{r:RowD}(h:kS E w B x r) (hc:Cf w w'):kS E w' B x r:=h.chg hc (λ_ _ _ h=>h)
def uN (E:Elt (Int×Int)) (F:Elt (Int×Sl)) (w:World) (B:Nat) (s:Sl) (R:List RowD):Prop :=
 ∃X:List (Int×Sl),F.In w B s X/\X.length=R.length/\∀(j:Nat) x r,X[j]?=some x->R[j]?=some r->kS E w B x r
theorem uN.same {E:Elt (Int×Int)}{F:Elt (Int×Sl)}{w w':World}{B:Nat}{s:Sl}{R:List RowD}(h:uN E F w B s R) (hc:Cf w w'):uN E F w' B s R:=by
 obtain⟨X,h1,h2,h3⟩:=h;exact⟨X,h1.same hc,h2,λj x r hx hr=>(h3 j x r hx hr).same hc⟩
theorem zCc {W:World}{b:Nat}{u0 u1:Value}(v0 v1:Value) (h0:W.cell? ⟨b,0,none⟩=some u0) (h1:W.cell? ⟨b,1,none⟩=some u1) :
  ((W.setCell ⟨b,0,none⟩ v0).setCell ⟨b,1,none⟩ v1).cell? ⟨b,0,none⟩=some v0/\((W.setCell ⟨b,0,none⟩ v0).setCell ⟨b,1,none⟩ v1).cell? ⟨b,1,none⟩=some v1/\Chg (·=b) W ((W.setCell ⟨b,0,none⟩ v0).setCell ⟨b,1,none⟩ v1):=by
 refine⟨?_,Az9 _ _ _ (u:=u1) ?_,(zA _ _ _ _).trans (zA _ _ _ _)⟩
 .rw[Ay0 _ _ _ _ (by intro e;injection e with _ e;cases e)]
  exact Az9 _ _ _ h0
 .rw[Ay0 _ _ _ _ (by intro e;injection e with _ e;cases e)]
  exact h1
theorem eL {W:World}{b:Nat}{u0 u1 u2:Value}(v0 v1 v2:Value) (h0:W.cell? ⟨b,0,none⟩=some u0) (h1:W.cell? ⟨b,1,none⟩=some u1) (h2:W.cell? ⟨b,2,none⟩=some u2) :
  (((W.setCell ⟨b,0,none⟩ v0).setCell ⟨b,1,none⟩ v1).setCell ⟨b,2,none⟩ v2).cell? ⟨b,0,none⟩=some v0/\(((W.setCell ⟨b,0,none⟩ v0).setCell ⟨b,1,none⟩ v1).setCell ⟨b,2,none⟩ v2).cell? ⟨b,1,none⟩=some v1/\(((W.setCell ⟨b,0,none⟩ v0).setCell ⟨b,1,none⟩ v1).setCell ⟨b,2,none⟩ v2).cell? ⟨b,2,none⟩=some v2/\Chg (·=b) W (((W.setCell ⟨b,0,none⟩ v0).setCell ⟨b,1,none⟩ v1).setCell ⟨b,2,none⟩ v2):=by
 obtain⟨k0,k1,k2⟩:=zCc v0 v1 h0 h1;have k3:((W.setCell ⟨b,0,none⟩ v0).setCell ⟨b,1,none⟩ v1).cell? ⟨b,2,none⟩=some u2:=by
  rw[Ay0 _ _ _ _ (by intro e;injection e with _ e;cases e),Ay0 _ _ _ _ (by intro e;injection e with _ e;cases e)];exact h2
 refine⟨?_,?_,Az9 _ _ _ k3,k2.trans (zA _ _ _ _)⟩
 .rw[Ay0 _ _ _ _ (by intro e;injection e with _ e;cases e)]
  exact k0
 .rw[Ay0 _ _ _ _ (by intro e;injection e with _ e;cases e)]
  exact k1
structure Fld (E:Elt α) (br off:Nat) (w:World) (v:Value) (X:List α):Prop where
 c:w.cell? ⟨br,off,none⟩=some v
 z:w.frozen? ⟨br,off,none⟩=false
 own:E.Own w (br+1) v X
theorem Fld.lt {br off:Nat}{w:World}{v:Value}{X:List α}(h:Fld E br off w v X):br<w.heap.size:=Az6 _ _ h.c
theorem Fld.chg {S:Nat->Prop}{br off:Nat}{w w':World}{v:Value}{X:List α}(h:Fld E br off w v X) (hc:Chg S w w') (hs:∀g,br<=g->g<w.heap.size->¬S g):Fld E br off w' v X :=
 ⟨hc.cellS h.c (hs br (Ay _) h.lt),(hc.frozen (p:=⟨br,off,none⟩) h.lt (hs br (Ay _) h.lt)).trans h.z,h.own.chg hc (λg hg=>hs g oM)⟩
theorem Fld.step {br off:Nat}{w w1:World}{v v':Value}{X X':List α}(h:Fld E br off w v X) (ho:E.Own w1 (br+1) v' X') (hc:Chg (λk=>br+1<=k) w w1) :
  (w1.cell? ⟨br,off,none⟩=some v/\w1.frozen? ⟨br,off,none⟩=false)/\Fld E br off (w1.setCell ⟨br,off,none⟩ v') v' X'/\Chg (λk=>br<=k) w (w1.setCell ⟨br,off,none⟩ v') /\
   ∀off' u,off'≠off->w.cell? ⟨br,off',none⟩=some u->(w1.setCell ⟨br,off,none⟩ v').cell? ⟨br,off',none⟩=some u:=by
 have hlt:=h.lt;have c1:=hc.cellS h.c (by show ¬br+1<=br;omega);have z1:=(hc.frozen (p:=⟨br,off,none⟩) hlt (by show ¬br+1<=br;omega)).trans h.z;refine⟨⟨c1,z1⟩,⟨Az9 _ _ _ c1,(Az4 _ _ _ _).trans z1,ho.chg (zA _ _ _ _) (λg hg _ e=>oM)⟩,(hc.mono (λk _ e=>oM)).trans ((zA w1 br off v').mono (λk _ e=>oM)),λoff' u hne hu=>?_⟩;rw[Ay0 _ _ _ _ (by intro e;injection e with _ e;exact hne e.symm)];exact hc.cellS hu (by show ¬br+1<=br;omega)
end Go.Proofs.YtgnpmceimpjheaaGreat
namespace Go.Proofs.YtgnpmceimpjheaaGreat
open Go.RowKit
def idxV {α:Type}(p:α->Bool) (L:List α):Int:=if L.findIdx p<L.length then (L.findIdx p:Int) else -1
theorem uQ {α:Type}{p:α->Bool}{L:List α}{k:Nat}{x:α}(hx:L[k]?=some x) (hp:p x=true) (hb:∀(j:Nat) (y:α),j<k->L[j]?=some y->p y=false):idxV p L=k:=by
 have hk:=(Az1.1 hx).1;have he:L.findIdx p=k:=(List.findIdx_eq hk).2 ⟨by rw[(Az1.1 hx).2];exact hp,λj hj=>hb j _ hj (Az oM)⟩;unfold idxV;rw[he,if_pos hk]
theorem rG {α:Type}{p:α->Bool}{L:List α}(hb:∀(j:Nat) (y:α),j<L.length->L[j]?=some y->p y=false):idxV p L=-1:=by
 have:¬L.findIdx p<L.length:=by
  rw[List.findIdx_lt_length];rintro ⟨x,hx,hp⟩;obtain⟨j,hj,rfl⟩:=Av9 hx;rw[hb j _ hj (Az hj)]at hp;cases hp
 unfold idxV;rw[if_neg this]
theorem tE {α:Type}(p:α->Bool):∀L:List α,(∃(k:Nat) (x:α),L[k]?=some x/\p x=true/\idxV p L=k/\L.find? p=some x/\L.any p=true)\/(idxV p L=-1/\L.find? p=none/\L.any p=false)
 | []=>.inr ⟨rfl,rfl,rfl⟩
 | x :: L=>by
  by_cases hx:p x=true
  .exact .inl ⟨0,x,rfl,hx,uQ (k:=0) (x:=x) rfl hx (λj y h=>absurd h (Ax _)),by simp[hx],by simp[hx]⟩
  .have hx':p x=false:=by simpa using hx
   rcases tE p L with ⟨k,y,h1,h2,h3,h4,h5⟩|⟨h1,h2,h3⟩
   .refine .inl ⟨k+1,y,by simpa using h1,h2,?_,by simp[hx',h4],by simp only[List.any_cons,hx',h5,Au8]⟩
    unfold idxV at h3 ⊢;simp only[List.findIdx_cons,hx',cond_false,Ax2]
    split at h3
    .rw[if_pos oM];omega
    .omega
   .refine .inr ⟨?_,by simp[hx',h2],by simp only[List.any_cons,hx',h3,Au8]⟩
    unfold idxV at h1 ⊢;simp only[List.findIdx_cons,hx',cond_false,Ax2]
    split at h1
    .omega
    .rw[if_neg oM]
theorem zJu (x y i:Int) (p:Nat) (w:World) (hp:w.cell? ⟨p,0,none⟩=some (.int .i64 i)) :
  Calls Tryz.prog 196 #[.agg #[.int .i64 x,.int .i64 y],.pointer (some ⟨p,0,none⟩)] w λe w'=>e=.returned (.bool (x == i))/\Cf w w':=by
 have hp2:(w.alloc (.cells #[.int .i64 x,.int .i64 y] 246)).cell? ⟨p,0,none⟩=some (.int .i64 i):=((Chg.refl (λ_=>False) w).alloc _).cellS hp iD;go_enter Tryz.func196,Tryz.ntmps196
 go_wp2;go_ret
 exact⟨rfl,(Chg.refl _ _).alloc _⟩
theorem zAw (L:List (Int×Int)) (a:Option Addr) (c B p:Nat) (i:Int) (w:World) (h:vN.In w B (a,L.length,c) L) (hp:w.cell? ⟨p,0,none⟩=some (.int .i64 i)) (hl:L.length<=1000000000) :
  Calls Tryz.prog 195 #[.slice a L.length c,.func (.func 196) #[] #[.pointer (some ⟨p,0,none⟩)]] w λe w'=>e=.returned (.int .i64 (idxV (λc=>c.1 == i) L))/\Cf w w':=by
 have HL:=jh h;have HP:Hd (∀w',Cf w w'->w'.cell? ⟨p,0,none⟩=some (.int .i64 i)):=jh λw' hc=>hc.cellS hp iD
 clear h hp;go_enter Tryz.func195,Tryz.ntmps195
 go_wp2
 go_loopw [8] (λq wr=>∃k:Nat,k<=L.length/\q=.int .i64 k/\(∀(j:Nat) y,j<k->L[j]?=some y->(y.1 == i)=false)/\Cf w wr) (λq _=>L.length-(intOf q).toNat)
 case atStart=>exact⟨0,oM,rfl,λj y h=>absurd h (Ax _),Chg.refl _ _⟩
 case round =>
  obtain⟨k,hk,rfl,hb,hc⟩:=hrel;have HB:=jh hb;have HC:=jh hc;clear hb hc;by_cases hkl:k<L.length
  .have b9:decide ((k:Int)<(L.length:Int))=true:=by simp;omega
   obtain⟨x,g,o,u,v,hx,rfl,he,c0,c1,-,-,-⟩:=(HL.o.same HC.o).get2 rfl hkl;obtain⟨x0,x1⟩:=x;have HX:=jh hx
   change uW (x0,x1)=[u,v]at he
   unfold uW at he;simp only[List.cons.injEq,and_true]at he;obtain⟨rfl,rfl⟩:=he;clear hx;by_cases hxi:(x0 == i)=true
   .go_wp2_with fail
    refine (zJu x0 x1 i p wr (HP.o wr HC.o)).mono ?_;rintro e w2 ⟨rfl,hc2⟩;rw[hxi];have HC2:=jh (HC.o.trans hc2);have HF:Hd (idxV (λc=>c.1 == i) L=k):=jh (uQ HX.o hxi HB.o);clear hc2 c0 c1;go_wp2;go_ret
    exact⟨by rw[HF.o];rfl,HC2.o⟩
   .have hxi':(x0 == i)=false:=by simpa using hxi
    have HB2:Hd (∀(j:Nat) y,j<k+1->L[j]?=some y->(y.1 == i)=false):=jh (λj y hj hy=>by
     by_cases he:j=k
     .subst he;rw[HX.o]at hy;obtain rfl:=Az3 hy;exact hxi'
     .exact HB.o j y oM hy)
    go_wp2_with fail
    refine (zJu x0 x1 i p wr (HP.o wr HC.o)).mono ?_;rintro e w2 ⟨rfl,hc2⟩;rw[hxi'];have HC2:=jh (HC.o.trans hc2);clear hc2 c0 c1;go_wp2;go_roundw
    case rel=>exact⟨k+1,oM,by go_num,HB2.o,HC2.o⟩
    case measure=>simp[intOf];omega
  .obtain rfl:k=L.length:=oM
   have HF:Hd (idxV (λc=>c.1 == i) L=-1):=jh (rG HB.o);go_wp2;go_ret
   exact⟨by rw[HF.o];rfl,HC.o⟩
theorem zTr (d:Int) (L:List (Int×Int)) (a:Option Addr) (c B:Nat) (i:Int) (w:World) (h:vN.In w B (a,L.length,c) L) (hl:L.length<=1000000000) :
  Calls Tryz.prog 188 #[.agg #[.int .i64 d,.slice a L.length c],.int .i64 i] w λe w'=>e=.returned (.int .i64 (zC8 (d,L) i))/\Cf w w':=by
 have HL:=jh h;have hlc:L.length<=c:=h.2.1;clear h;rcases tE (λc:Int×Int=>c.1 == i) L with ⟨k,x,h1,h2,h3,h4,-⟩|⟨h3,h4,-⟩
 .have HI:=jh h3
  have hk:=(Az1.1 h1).1;have HA:Hd (zC8 (d,L) i=x.2):=jh (by unfold zC8;simp only[h4]);have HX:=jh h1;clear h1 h2 h3 h4;go_enter Tryz.func188,Tryz.ntmps188
  go_wp2_with fail
  refine (zAw L a c B _ i _ (HL.o.same (((Chg.refl _ _).alloc _).alloc _)) sI hl).mono ?_;rintro e w2 ⟨rfl,hc2⟩;rw[HI.o];have b0:=hc2.cellS (p:=⟨w.heap.size,0,none⟩) (v:=.int .i64 d) sI iD;have b1:=hc2.cellS (p:=⟨w.heap.size,1,none⟩) (v:=.slice a L.length c) sI iD;have HC2:=jh (Chg.trans (((Chg.refl _ w).alloc _).alloc _) hc2);obtain⟨y,g,o,u,v,hy,rfl,he,c0,c1,-,-,-⟩:=(HL.o.same HC2.o).get2 rfl hk;rw[HX.o]at hy;obtain rfl:=Az3 hy
  change uW (x.1,x.2)=[u,v]at he
  unfold uW at he;simp only[List.cons.injEq,and_true]at he;obtain⟨rfl,rfl⟩:=he;clear hy hc2;go_wp2;go_ret
  exact⟨by rw[HA.o];rfl,HC2.o⟩
 .have HI:=jh h3
  have HA:Hd (zC8 (d,L) i=d):=jh (by unfold zC8;simp only[h4]);clear h3 h4;go_enter Tryz.func188,Tryz.ntmps188
  go_wp2_with fail
  refine (zAw L a c B _ i _ (HL.o.same (((Chg.refl _ _).alloc _).alloc _)) sI hl).mono ?_;rintro e w2 ⟨rfl,hc2⟩;rw[HI.o];have b0:=hc2.cellS (p:=⟨w.heap.size,0,none⟩) (v:=.int .i64 d) sI iD;have HC2:=jh (Chg.trans (((Chg.refl _ w).alloc _).alloc _) hc2);clear hc2;go_wp2;go_ret
  exact⟨by rw[HA.o];rfl,HC2.o⟩
end Go.Proofs.YtgnpmceimpjheaaGreat
