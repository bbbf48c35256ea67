/-
  No cell of these rows narrows 'for every input' (looked for: loops, veiled, ifaces, maps, wideKeys, modest, calm, conditions, laid).
  DERIVED. THE GIVEN ROWS OF THIS SEAT. 4 by the template 'for every input the law returns true; each argument reads behind the call as it read before'; 0 by the template 'total and deterministic' (their statements: YtodohgckncnipaaTotals.lean).
  GIVEN WITH THE SEED: the statements are not yours to turn. If you find one false, say at which input.
  Laid BY PROGRAM, IN A SANDBOX (cutbox-rows.mjs): the forced cells as the released guide's own fill.sh prints them over the translation f79bfb3b6326d8e0… (all of the seat's roots in one cut). By AI agents, Wed Nov 11 2026. No macro, syntax, notation, axiom, sorry.
-/
import Derived.Test.YtodohgckncnipaaChecked
import GoSem.Claim
import GoSem.ClaimJoined
import GoSem.ClaimMapViews
import Derived.JoinedTies
import Derived.KernelRfl
namespace Go.Proofs.Ytodohgckncnipaa
/- THE CELL 'sum', in the pinned program and in every row, IS THE sha256 OF THE DUMP (.gsa) THAT YtodohgckncnipaaProg.lean LOADS. Nothing in Lean hashes anything: it is a label: what it is worth is what the hold of that sum in a sandbox is worth. -/
noncomputable def Try.pinned : Pinned := { name := "ytodohgckncnipaa", sum := "f79bfb3b6326d8e0b933aaf8c0ab466689b8f1b52cd650b37886d2d05fc9dcd3", checked := Try.checked }
namespace Rows
def none {H : Type} : Left H := { results := [], args := [] }

/-- 'harbingerlaw10.MinsLeast': WHATEVER THE INPUT: true; the input reads as it did. -/
def minsLeastSpec : ChangeSpec := { name := "minsLeast", fn := fun _ => fun
  | [d] => { results := [.lit (.bool true)], args := [d] }
  | _ => none }
def minsLeastRow : OpenClaim := { program := "ytodohgckncnipaa", sum := "f79bfb3b6326d8e0b933aaf8c0ab466689b8f1b52cd650b37886d2d05fc9dcd3", func := "harbinger/harbingerlaw10.MinsLeast", spec := "minsLeast", unfollowed := true, recurses := true, plainKeys := false, apart := false }
def MinsLeastSaid : Prop := minsLeastRow.holds Try.pinned (OpenSpec.ofChange minsLeastSpec)

/-- ITS FALSE NEIGHBOUR: 'it returns false'. Refute it at one input. -/
def minsLeastWrong : ChangeSpec := { name := "minsLeast", fn := fun _ => fun
  | [d] => { results := [.lit (.bool false)], args := [d] }
  | _ => none }
def MinsLeastWrongFalsely : Prop := minsLeastRow.holds Try.pinned (OpenSpec.ofChange minsLeastWrong)

/-- 'harbingerlaw10.MinsAlike': WHATEVER THE INPUT: true; the input reads as it did. -/
def minsAlikeSpec : ChangeSpec := { name := "minsAlike", fn := fun _ => fun
  | [d1, d2] => { results := [.lit (.bool true)], args := [d1, d2] }
  | _ => none }
def minsAlikeRow : OpenClaim := { program := "ytodohgckncnipaa", sum := "f79bfb3b6326d8e0b933aaf8c0ab466689b8f1b52cd650b37886d2d05fc9dcd3", func := "harbinger/harbingerlaw10.MinsAlike", spec := "minsAlike", unfollowed := true, recurses := true, plainKeys := false, apart := false }
def MinsAlikeSaid : Prop := minsAlikeRow.holds Try.pinned (OpenSpec.ofChange minsAlikeSpec)

/-- ITS FALSE NEIGHBOUR: 'it returns false'. Refute it at one input. -/
def minsAlikeWrong : ChangeSpec := { name := "minsAlike", fn := fun _ => fun
  | [d1, d2] => { results := [.lit (.bool false)], args := [d1, d2] }
  | _ => none }
def MinsAlikeWrongFalsely : Prop := minsAlikeRow.holds Try.pinned (OpenSpec.ofChange minsAlikeWrong)

/-- 'harbingerlaw10.MinsDoes': WHATEVER THE INPUT: true; the input reads as it did. -/
def minsDoesSpec : ChangeSpec := { name := "minsDoes", fn := fun _ => fun
  | [d1, d2] => { results := [.lit (.bool true)], args := [d1, d2] }
  | _ => none }
def minsDoesRow : OpenClaim := { program := "ytodohgckncnipaa", sum := "f79bfb3b6326d8e0b933aaf8c0ab466689b8f1b52cd650b37886d2d05fc9dcd3", func := "harbinger/harbingerlaw10.MinsDoes", spec := "minsDoes", unfollowed := true, recurses := true, plainKeys := false, apart := false }
def MinsDoesSaid : Prop := minsDoesRow.holds Try.pinned (OpenSpec.ofChange minsDoesSpec)

/-- ITS FALSE NEIGHBOUR: 'it returns false'. Refute it at one input. -/
def minsDoesWrong : ChangeSpec := { name := "minsDoes", fn := fun _ => fun
  | [d1, d2] => { results := [.lit (.bool false)], args := [d1, d2] }
  | _ => none }
def MinsDoesWrongFalsely : Prop := minsDoesRow.holds Try.pinned (OpenSpec.ofChange minsDoesWrong)

/-- 'harbingerlaw10.MinsTurned': WHATEVER THE INPUT: true; the input reads as it did. -/
def minsTurnedSpec : ChangeSpec := { name := "minsTurned", fn := fun _ => fun
  | [d1, d2, d3] => { results := [.lit (.bool true)], args := [d1, d2, d3] }
  | _ => none }
def minsTurnedRow : OpenClaim := { program := "ytodohgckncnipaa", sum := "f79bfb3b6326d8e0b933aaf8c0ab466689b8f1b52cd650b37886d2d05fc9dcd3", func := "harbinger/harbingerlaw10.MinsTurned", spec := "minsTurned", unfollowed := true, recurses := true, plainKeys := false, apart := false }
def MinsTurnedSaid : Prop := minsTurnedRow.holds Try.pinned (OpenSpec.ofChange minsTurnedSpec)

/-- ITS FALSE NEIGHBOUR: 'it returns false'. Refute it at one input. -/
def minsTurnedWrong : ChangeSpec := { name := "minsTurned", fn := fun _ => fun
  | [d1, d2, d3] => { results := [.lit (.bool false)], args := [d1, d2, d3] }
  | _ => none }
def MinsTurnedWrongFalsely : Prop := minsTurnedRow.holds Try.pinned (OpenSpec.ofChange minsTurnedWrong)

/- THE SECOND FORM. 'bulk': how many values and letters a reading holds, each counted each time it is reached (what is shared counts as often as it is met; a slice's spare places count too). A statement '..UptoSaid' is the law's where the arguments, and the package variables that the reading takes, are together of bulk at most 1048576: NARROWER than '..Said'. Prove '..Said' where nothing that the law and all that it calls make is longer than what came in: it says more and counts as full. Else prove '..UptoSaid'. A law counts once. -/
mutual
def uptoBulk {H : Type} : DataW H → Nat
  | .lit (.string bytes) => bytes.length + 1
  | .lit _ => 1
  | .nil => 1
  | .ptr d => uptoBulk d + 1
  | .slice elems spare => uptoBulkAll elems + uptoBulkAll spare + 1
  | .agg parts => uptoBulkAll parts + 1
  | .iface _ d => uptoBulk d + 1
  | .map entries => uptoBulkEntries entries + 1
  | .held _ => 1
def uptoBulkAll {H : Type} : List (DataW H) → Nat
  | [] => 0
  | d :: r => uptoBulk d + uptoBulkAll r
def uptoBulkEntries {H : Type} : List (Lit × DataW H) → Nat
  | [] => 0
  | x :: r => uptoBulkEntry x + uptoBulkEntries r
def uptoBulkEntry {H : Type} : Lit × DataW H → Nat
  | (.string bytes, d) => bytes.length + uptoBulk d + 1
  | (_, d) => uptoBulk d + 1
 end
def uptoSmall : (H : Type) → List (DataW H) → Bool := fun _ ds => decide (uptoBulkAll ds ≤ 1048576)
def OpenSpec.upto (s : _root_.Go.ChangeSpec) : _root_.Go.OpenSpec := { _root_.Go.OpenSpec.ofChange s with cond := some uptoSmall }

/-- 'harbingerlaw10.MinsLeast', WHERE WHAT IT READS IS OF BULK AT MOST 1048576: true; the input reads as it did. -/
def minsLeastUptoRow : OpenClaim := { program := "ytodohgckncnipaa", sum := "f79bfb3b6326d8e0b933aaf8c0ab466689b8f1b52cd650b37886d2d05fc9dcd3", func := "harbinger/harbingerlaw10.MinsLeast", spec := "minsLeast", unfollowed := true, recurses := true, plainKeys := false, apart := false, narrowed := true }
def MinsLeastUptoSaid : Prop := minsLeastUptoRow.holds Try.pinned (OpenSpec.upto minsLeastSpec)

/-- 'harbingerlaw10.MinsAlike', WHERE WHAT IT READS IS OF BULK AT MOST 1048576: true; the input reads as it did. -/
def minsAlikeUptoRow : OpenClaim := { program := "ytodohgckncnipaa", sum := "f79bfb3b6326d8e0b933aaf8c0ab466689b8f1b52cd650b37886d2d05fc9dcd3", func := "harbinger/harbingerlaw10.MinsAlike", spec := "minsAlike", unfollowed := true, recurses := true, plainKeys := false, apart := false, narrowed := true }
def MinsAlikeUptoSaid : Prop := minsAlikeUptoRow.holds Try.pinned (OpenSpec.upto minsAlikeSpec)

/-- 'harbingerlaw10.MinsDoes', WHERE WHAT IT READS IS OF BULK AT MOST 1048576: true; the input reads as it did. -/
def minsDoesUptoRow : OpenClaim := { program := "ytodohgckncnipaa", sum := "f79bfb3b6326d8e0b933aaf8c0ab466689b8f1b52cd650b37886d2d05fc9dcd3", func := "harbinger/harbingerlaw10.MinsDoes", spec := "minsDoes", unfollowed := true, recurses := true, plainKeys := false, apart := false, narrowed := true }
def MinsDoesUptoSaid : Prop := minsDoesUptoRow.holds Try.pinned (OpenSpec.upto minsDoesSpec)

/-- 'harbingerlaw10.MinsTurned', WHERE WHAT IT READS IS OF BULK AT MOST 1048576: true; the input reads as it did. -/
def minsTurnedUptoRow : OpenClaim := { program := "ytodohgckncnipaa", sum := "f79bfb3b6326d8e0b933aaf8c0ab466689b8f1b52cd650b37886d2d05fc9dcd3", func := "harbinger/harbingerlaw10.MinsTurned", spec := "minsTurned", unfollowed := true, recurses := true, plainKeys := false, apart := false, narrowed := true }
def MinsTurnedUptoSaid : Prop := minsTurnedUptoRow.holds Try.pinned (OpenSpec.upto minsTurnedSpec)

end Rows
end Go.Proofs.Ytodohgckncnipaa
