/-
  No cell of these rows narrows 'for every input' (looked for: loops, veiled, ifaces, maps, wideKeys, modest, calm, conditions, laid).
  DERIVED. THE GIVEN ROWS OF THIS SEAT. 3 by the template 'for every input the law returns true; each argument reads behind the call as it read before'; 0 by the template 'total and deterministic' (their statements: YtoicneeecokglaaTotals.lean).
  GIVEN WITH THE SEED: the statements are not yours to turn. If you find one false, say at which input.
  Laid BY PROGRAM, IN A SANDBOX (cutbox-rows.mjs): the forced cells as the released guide's own fill.sh prints them over the translation bbfb34180d23bc42… (all of the seat's roots in one cut). By AI agents, Wed Nov 11 2026. No macro, syntax, notation, axiom, sorry.
-/
import Derived.Test.YtoicneeecokglaaChecked
import GoSem.Claim
import GoSem.ClaimJoined
import GoSem.ClaimMapViews
import Derived.JoinedTies
import Derived.KernelRfl
namespace Go.Proofs.Ytoicneeecokglaa
/- THE CELL 'sum', in the pinned program and in every row, IS THE sha256 OF THE DUMP (.gsa) THAT YtoicneeecokglaaProg.lean LOADS. Nothing in Lean hashes anything: it is a label: what it is worth is what the hold of that sum in a sandbox is worth. -/
noncomputable def Try.pinned : Pinned := { name := "ytoicneeecokglaa", sum := "bbfb34180d23bc426595d345f60ad3240cf28030ab0810c53ba40cdd7cae42c1", checked := Try.checked }
namespace Rows
def none {H : Type} : Left H := { results := [], args := [] }

/-- 'harbingerlaw20.MemosPlay': WHATEVER THE INPUT: true; the input reads as it did. -/
def memosPlaySpec : ChangeSpec := { name := "memosPlay", fn := fun _ => fun
  | [d1, d2] => { results := [.lit (.bool true)], args := [d1, d2] }
  | _ => none }
def memosPlayRow : OpenClaim := { program := "ytoicneeecokglaa", sum := "bbfb34180d23bc426595d345f60ad3240cf28030ab0810c53ba40cdd7cae42c1", func := "harbinger/harbingerlaw20.MemosPlay", spec := "memosPlay", inPlace := ["sync/atomic.AddInt64", "sync/atomic.LoadInt64", "sync/atomic.StoreInt64"], plainKeys := false, apart := false }
def MemosPlaySaid : Prop := memosPlayRow.holds Try.pinned (OpenSpec.ofChange memosPlaySpec)

/-- ITS FALSE NEIGHBOUR: 'it returns false'. Refute it at one input. -/
def memosPlayWrong : ChangeSpec := { name := "memosPlay", fn := fun _ => fun
  | [d1, d2] => { results := [.lit (.bool false)], args := [d1, d2] }
  | _ => none }
def MemosPlayWrongFalsely : Prop := memosPlayRow.holds Try.pinned (OpenSpec.ofChange memosPlayWrong)

/-- 'harbingerlaw20.MemosVoid': WHATEVER THE INPUT: true; the input reads as it did. -/
def memosVoidSpec : ChangeSpec := { name := "memosVoid", fn := fun _ => fun
  | [d] => { results := [.lit (.bool true)], args := [d] }
  | _ => none }
def memosVoidRow : OpenClaim := { program := "ytoicneeecokglaa", sum := "bbfb34180d23bc426595d345f60ad3240cf28030ab0810c53ba40cdd7cae42c1", func := "harbinger/harbingerlaw20.MemosVoid", spec := "memosVoid", inPlace := ["sync/atomic.AddInt64", "sync/atomic.StoreInt64", "sync/atomic.LoadInt64"], plainKeys := false, apart := false }
def MemosVoidSaid : Prop := memosVoidRow.holds Try.pinned (OpenSpec.ofChange memosVoidSpec)

/-- ITS FALSE NEIGHBOUR: 'it returns false'. Refute it at one input. -/
def memosVoidWrong : ChangeSpec := { name := "memosVoid", fn := fun _ => fun
  | [d] => { results := [.lit (.bool false)], args := [d] }
  | _ => none }
def MemosVoidWrongFalsely : Prop := memosVoidRow.holds Try.pinned (OpenSpec.ofChange memosVoidWrong)

/-- 'harbingerlaw20.MemosApart': WHATEVER THE INPUT: true; the input reads as it did. -/
def memosApartSpec : ChangeSpec := { name := "memosApart", fn := fun _ => fun
  | [d1, d2, d3] => { results := [.lit (.bool true)], args := [d1, d2, d3] }
  | _ => none }
def memosApartRow : OpenClaim := { program := "ytoicneeecokglaa", sum := "bbfb34180d23bc426595d345f60ad3240cf28030ab0810c53ba40cdd7cae42c1", func := "harbinger/harbingerlaw20.MemosApart", spec := "memosApart", inPlace := ["sync/atomic.AddInt64", "sync/atomic.LoadInt64", "sync/atomic.StoreInt64"], plainKeys := false, apart := false }
def MemosApartSaid : Prop := memosApartRow.holds Try.pinned (OpenSpec.ofChange memosApartSpec)

/-- ITS FALSE NEIGHBOUR: 'it returns false'. Refute it at one input. -/
def memosApartWrong : ChangeSpec := { name := "memosApart", fn := fun _ => fun
  | [d1, d2, d3] => { results := [.lit (.bool false)], args := [d1, d2, d3] }
  | _ => none }
def MemosApartWrongFalsely : Prop := memosApartRow.holds Try.pinned (OpenSpec.ofChange memosApartWrong)

/- THE SECOND FORM. 'bulk': how many values and letters a reading holds, each counted each time it is reached (what is shared counts as often as it is met; a slice's spare places count too). A statement '..UptoSaid' is the law's where the arguments, and the package variables that the reading takes, are together of bulk at most 1048576: NARROWER than '..Said'. Prove '..Said' where nothing that the law and all that it calls make is longer than what came in: it says more and counts as full. Else prove '..UptoSaid'. A law counts once. -/
mutual
def uptoBulk {H : Type} : DataW H → Nat
  | .lit (.string bytes) => bytes.length + 1
  | .lit _ => 1
  | .nil => 1
  | .ptr d => uptoBulk d + 1
  | .slice elems spare => uptoBulkAll elems + uptoBulkAll spare + 1
  | .agg parts => uptoBulkAll parts + 1
  | .iface _ d => uptoBulk d + 1
  | .map entries => uptoBulkEntries entries + 1
  | .held _ => 1
def uptoBulkAll {H : Type} : List (DataW H) → Nat
  | [] => 0
  | d :: r => uptoBulk d + uptoBulkAll r
def uptoBulkEntries {H : Type} : List (Lit × DataW H) → Nat
  | [] => 0
  | x :: r => uptoBulkEntry x + uptoBulkEntries r
def uptoBulkEntry {H : Type} : Lit × DataW H → Nat
  | (.string bytes, d) => bytes.length + uptoBulk d + 1
  | (_, d) => uptoBulk d + 1
 end
def uptoSmall : (H : Type) → List (DataW H) → Bool := fun _ ds => decide (uptoBulkAll ds ≤ 1048576)
def OpenSpec.upto (s : _root_.Go.ChangeSpec) : _root_.Go.OpenSpec := { _root_.Go.OpenSpec.ofChange s with cond := some uptoSmall }

/-- 'harbingerlaw20.MemosPlay', WHERE WHAT IT READS IS OF BULK AT MOST 1048576: true; the input reads as it did. -/
def memosPlayUptoRow : OpenClaim := { program := "ytoicneeecokglaa", sum := "bbfb34180d23bc426595d345f60ad3240cf28030ab0810c53ba40cdd7cae42c1", func := "harbinger/harbingerlaw20.MemosPlay", spec := "memosPlay", inPlace := ["sync/atomic.AddInt64", "sync/atomic.LoadInt64", "sync/atomic.StoreInt64"], plainKeys := false, apart := false, narrowed := true }
def MemosPlayUptoSaid : Prop := memosPlayUptoRow.holds Try.pinned (OpenSpec.upto memosPlaySpec)

/-- 'harbingerlaw20.MemosVoid', WHERE WHAT IT READS IS OF BULK AT MOST 1048576: true; the input reads as it did. -/
def memosVoidUptoRow : OpenClaim := { program := "ytoicneeecokglaa", sum := "bbfb34180d23bc426595d345f60ad3240cf28030ab0810c53ba40cdd7cae42c1", func := "harbinger/harbingerlaw20.MemosVoid", spec := "memosVoid", inPlace := ["sync/atomic.AddInt64", "sync/atomic.StoreInt64", "sync/atomic.LoadInt64"], plainKeys := false, apart := false, narrowed := true }
def MemosVoidUptoSaid : Prop := memosVoidUptoRow.holds Try.pinned (OpenSpec.upto memosVoidSpec)

/-- 'harbingerlaw20.MemosApart', WHERE WHAT IT READS IS OF BULK AT MOST 1048576: true; the input reads as it did. -/
def memosApartUptoRow : OpenClaim := { program := "ytoicneeecokglaa", sum := "bbfb34180d23bc426595d345f60ad3240cf28030ab0810c53ba40cdd7cae42c1", func := "harbinger/harbingerlaw20.MemosApart", spec := "memosApart", inPlace := ["sync/atomic.AddInt64", "sync/atomic.LoadInt64", "sync/atomic.StoreInt64"], plainKeys := false, apart := false, narrowed := true }
def MemosApartUptoSaid : Prop := memosApartUptoRow.holds Try.pinned (OpenSpec.upto memosApartSpec)

end Rows
end Go.Proofs.Ytoicneeecokglaa
