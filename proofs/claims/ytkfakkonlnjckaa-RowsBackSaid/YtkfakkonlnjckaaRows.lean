/-
  No cell of these rows narrows 'for every input' (looked for: loops, veiled, ifaces, maps, wideKeys, modest, calm, conditions, laid).
  DERIVED. THE GIVEN ROWS OF THIS SEAT. 6 by the template 'for every input the law returns true; each argument reads behind the call as it read before'; 0 by the template 'total and deterministic' (their statements: YtkfakkonlnjckaaTotals.lean).
  GIVEN WITH THE SEED: the statements are not yours to turn. If you find one false, say at which input.
  Laid BY PROGRAM, IN A SANDBOX (cutbox-rows.mjs): the forced cells as the released guide's own fill.sh prints them over the translation a35d15c0f42dbb0f… (all of the seat's roots in one cut). By AI agents, Wed Nov 11 2026. No macro, syntax, notation, axiom, sorry.
-/
import Derived.Test.YtkfakkonlnjckaaChecked
import GoSem.Claim
import GoSem.ClaimJoined
import GoSem.ClaimMapViews
import Derived.JoinedTies
import Derived.KernelRfl
namespace Go.Proofs.Ytkfakkonlnjckaa
/- THE CELL 'sum', in the pinned program and in every row, IS THE sha256 OF THE DUMP (.gsa) THAT YtkfakkonlnjckaaProg.lean LOADS. Nothing in Lean hashes anything: it is a label: what it is worth is what the hold of that sum in a sandbox is worth. -/
noncomputable def Try.pinned : Pinned := { name := "ytkfakkonlnjckaa", sum := "a35d15c0f42dbb0f86dba0b6eef44e8efe4ad921ff6dfd12dd0bfada69d169e5", checked := Try.checked }
namespace Rows
def none {H : Type} : Left H := { results := [], args := [] }

/-- 'harbingerlaw18.RowsOf': WHATEVER THE INPUT: true; the input reads as it did. -/
def rowsOfSpec : ChangeSpec := { name := "rowsOf", fn := fun _ => fun
  | [d1, d2] => { results := [.lit (.bool true)], args := [d1, d2] }
  | _ => none }
def rowsOfRow : OpenClaim := { program := "ytkfakkonlnjckaa", sum := "a35d15c0f42dbb0f86dba0b6eef44e8efe4ad921ff6dfd12dd0bfada69d169e5", func := "harbinger/harbingerlaw18.RowsOf", spec := "rowsOf", unfollowed := true, recurses := true, apart := false }
def RowsOfSaid : Prop := rowsOfRow.holds Try.pinned (OpenSpec.ofChange rowsOfSpec)

/-- ITS FALSE NEIGHBOUR: 'it returns false'. Refute it at one input. -/
def rowsOfWrong : ChangeSpec := { name := "rowsOf", fn := fun _ => fun
  | [d1, d2] => { results := [.lit (.bool false)], args := [d1, d2] }
  | _ => none }
def RowsOfWrongFalsely : Prop := rowsOfRow.holds Try.pinned (OpenSpec.ofChange rowsOfWrong)

/-- 'harbingerlaw18.RowsMake': WHATEVER THE INPUT: true; the input reads as it did. -/
def rowsMakeSpec : ChangeSpec := { name := "rowsMake", fn := fun _ => fun
  | [d1, d2, d3] => { results := [.lit (.bool true)], args := [d1, d2, d3] }
  | _ => none }
def rowsMakeRow : OpenClaim := { program := "ytkfakkonlnjckaa", sum := "a35d15c0f42dbb0f86dba0b6eef44e8efe4ad921ff6dfd12dd0bfada69d169e5", func := "harbinger/harbingerlaw18.RowsMake", spec := "rowsMake", unfollowed := true, recurses := true, apart := false }
def RowsMakeSaid : Prop := rowsMakeRow.holds Try.pinned (OpenSpec.ofChange rowsMakeSpec)

/-- ITS FALSE NEIGHBOUR: 'it returns false'. Refute it at one input. -/
def rowsMakeWrong : ChangeSpec := { name := "rowsMake", fn := fun _ => fun
  | [d1, d2, d3] => { results := [.lit (.bool false)], args := [d1, d2, d3] }
  | _ => none }
def RowsMakeWrongFalsely : Prop := rowsMakeRow.holds Try.pinned (OpenSpec.ofChange rowsMakeWrong)

/-- 'harbingerlaw18.RowsMay': WHATEVER THE INPUT: true; the input reads as it did. -/
def rowsMaySpec : ChangeSpec := { name := "rowsMay", fn := fun _ => fun
  | [d1, d2, d3] => { results := [.lit (.bool true)], args := [d1, d2, d3] }
  | _ => none }
def rowsMayRow : OpenClaim := { program := "ytkfakkonlnjckaa", sum := "a35d15c0f42dbb0f86dba0b6eef44e8efe4ad921ff6dfd12dd0bfada69d169e5", func := "harbinger/harbingerlaw18.RowsMay", spec := "rowsMay", unfollowed := true, recurses := true, apart := false }
def RowsMaySaid : Prop := rowsMayRow.holds Try.pinned (OpenSpec.ofChange rowsMaySpec)

/-- ITS FALSE NEIGHBOUR: 'it returns false'. Refute it at one input. -/
def rowsMayWrong : ChangeSpec := { name := "rowsMay", fn := fun _ => fun
  | [d1, d2, d3] => { results := [.lit (.bool false)], args := [d1, d2, d3] }
  | _ => none }
def RowsMayWrongFalsely : Prop := rowsMayRow.holds Try.pinned (OpenSpec.ofChange rowsMayWrong)

/-- 'harbingerlaw18.RowsHalf': WHATEVER THE INPUT: true; the input reads as it did. -/
def rowsHalfSpec : ChangeSpec := { name := "rowsHalf", fn := fun _ => fun
  | [d1, d2, d3] => { results := [.lit (.bool true)], args := [d1, d2, d3] }
  | _ => none }
def rowsHalfRow : OpenClaim := { program := "ytkfakkonlnjckaa", sum := "a35d15c0f42dbb0f86dba0b6eef44e8efe4ad921ff6dfd12dd0bfada69d169e5", func := "harbinger/harbingerlaw18.RowsHalf", spec := "rowsHalf", unfollowed := true, recurses := true, apart := false }
def RowsHalfSaid : Prop := rowsHalfRow.holds Try.pinned (OpenSpec.ofChange rowsHalfSpec)

/-- ITS FALSE NEIGHBOUR: 'it returns false'. Refute it at one input. -/
def rowsHalfWrong : ChangeSpec := { name := "rowsHalf", fn := fun _ => fun
  | [d1, d2, d3] => { results := [.lit (.bool false)], args := [d1, d2, d3] }
  | _ => none }
def RowsHalfWrongFalsely : Prop := rowsHalfRow.holds Try.pinned (OpenSpec.ofChange rowsHalfWrong)

/-- 'harbingerlaw18.RowsTake': WHATEVER THE INPUT: true; the input reads as it did. -/
def rowsTakeSpec : ChangeSpec := { name := "rowsTake", fn := fun _ => fun
  | [d] => { results := [.lit (.bool true)], args := [d] }
  | _ => none }
def rowsTakeRow : OpenClaim := { program := "ytkfakkonlnjckaa", sum := "a35d15c0f42dbb0f86dba0b6eef44e8efe4ad921ff6dfd12dd0bfada69d169e5", func := "harbinger/harbingerlaw18.RowsTake", spec := "rowsTake", unfollowed := true, recurses := true, apart := false }
def RowsTakeSaid : Prop := rowsTakeRow.holds Try.pinned (OpenSpec.ofChange rowsTakeSpec)

/-- ITS FALSE NEIGHBOUR: 'it returns false'. Refute it at one input. -/
def rowsTakeWrong : ChangeSpec := { name := "rowsTake", fn := fun _ => fun
  | [d] => { results := [.lit (.bool false)], args := [d] }
  | _ => none }
def RowsTakeWrongFalsely : Prop := rowsTakeRow.holds Try.pinned (OpenSpec.ofChange rowsTakeWrong)

/-- 'harbingerlaw18.RowsBack': WHATEVER THE INPUT: true; the input reads as it did. -/
def rowsBackSpec : ChangeSpec := { name := "rowsBack", fn := fun _ => fun
  | [d1, d2, d3] => { results := [.lit (.bool true)], args := [d1, d2, d3] }
  | _ => none }
def rowsBackRow : OpenClaim := { program := "ytkfakkonlnjckaa", sum := "a35d15c0f42dbb0f86dba0b6eef44e8efe4ad921ff6dfd12dd0bfada69d169e5", func := "harbinger/harbingerlaw18.RowsBack", spec := "rowsBack", unfollowed := true, recurses := true, apart := false }
def RowsBackSaid : Prop := rowsBackRow.holds Try.pinned (OpenSpec.ofChange rowsBackSpec)

/-- ITS FALSE NEIGHBOUR: 'it returns false'. Refute it at one input. -/
def rowsBackWrong : ChangeSpec := { name := "rowsBack", fn := fun _ => fun
  | [d1, d2, d3] => { results := [.lit (.bool false)], args := [d1, d2, d3] }
  | _ => none }
def RowsBackWrongFalsely : Prop := rowsBackRow.holds Try.pinned (OpenSpec.ofChange rowsBackWrong)

/- THE SECOND FORM. 'bulk': how many values and letters a reading holds, each counted each time it is reached (what is shared counts as often as it is met; a slice's spare places count too). A statement '..UptoSaid' is the law's where the arguments, and the package variables that the reading takes, are together of bulk at most 1048576: NARROWER than '..Said'. Prove '..Said' where nothing that the law and all that it calls make is longer than what came in: it says more and counts as full. Else prove '..UptoSaid'. A law counts once. -/
mutual
def uptoBulk {H : Type} : DataW H → Nat
  | .lit (.string bytes) => bytes.length + 1
  | .lit _ => 1
  | .nil => 1
  | .ptr d => uptoBulk d + 1
  | .slice elems spare => uptoBulkAll elems + uptoBulkAll spare + 1
  | .agg parts => uptoBulkAll parts + 1
  | .iface _ d => uptoBulk d + 1
  | .map entries => uptoBulkEntries entries + 1
  | .held _ => 1
def uptoBulkAll {H : Type} : List (DataW H) → Nat
  | [] => 0
  | d :: r => uptoBulk d + uptoBulkAll r
def uptoBulkEntries {H : Type} : List (Lit × DataW H) → Nat
  | [] => 0
  | x :: r => uptoBulkEntry x + uptoBulkEntries r
def uptoBulkEntry {H : Type} : Lit × DataW H → Nat
  | (.string bytes, d) => bytes.length + uptoBulk d + 1
  | (_, d) => uptoBulk d + 1
 end
def uptoSmall : (H : Type) → List (DataW H) → Bool := fun _ ds => decide (uptoBulkAll ds ≤ 1048576)
def OpenSpec.upto (s : _root_.Go.ChangeSpec) : _root_.Go.OpenSpec := { _root_.Go.OpenSpec.ofChange s with cond := some uptoSmall }

/-- 'harbingerlaw18.RowsOf', WHERE WHAT IT READS IS OF BULK AT MOST 1048576: true; the input reads as it did. -/
def rowsOfUptoRow : OpenClaim := { program := "ytkfakkonlnjckaa", sum := "a35d15c0f42dbb0f86dba0b6eef44e8efe4ad921ff6dfd12dd0bfada69d169e5", func := "harbinger/harbingerlaw18.RowsOf", spec := "rowsOf", unfollowed := true, recurses := true, apart := false, narrowed := true }
def RowsOfUptoSaid : Prop := rowsOfUptoRow.holds Try.pinned (OpenSpec.upto rowsOfSpec)

/-- 'harbingerlaw18.RowsMake', WHERE WHAT IT READS IS OF BULK AT MOST 1048576: true; the input reads as it did. -/
def rowsMakeUptoRow : OpenClaim := { program := "ytkfakkonlnjckaa", sum := "a35d15c0f42dbb0f86dba0b6eef44e8efe4ad921ff6dfd12dd0bfada69d169e5", func := "harbinger/harbingerlaw18.RowsMake", spec := "rowsMake", unfollowed := true, recurses := true, apart := false, narrowed := true }
def RowsMakeUptoSaid : Prop := rowsMakeUptoRow.holds Try.pinned (OpenSpec.upto rowsMakeSpec)

/-- 'harbingerlaw18.RowsMay', WHERE WHAT IT READS IS OF BULK AT MOST 1048576: true; the input reads as it did. -/
def rowsMayUptoRow : OpenClaim := { program := "ytkfakkonlnjckaa", sum := "a35d15c0f42dbb0f86dba0b6eef44e8efe4ad921ff6dfd12dd0bfada69d169e5", func := "harbinger/harbingerlaw18.RowsMay", spec := "rowsMay", unfollowed := true, recurses := true, apart := false, narrowed := true }
def RowsMayUptoSaid : Prop := rowsMayUptoRow.holds Try.pinned (OpenSpec.upto rowsMaySpec)

/-- 'harbingerlaw18.RowsHalf', WHERE WHAT IT READS IS OF BULK AT MOST 1048576: true; the input reads as it did. -/
def rowsHalfUptoRow : OpenClaim := { program := "ytkfakkonlnjckaa", sum := "a35d15c0f42dbb0f86dba0b6eef44e8efe4ad921ff6dfd12dd0bfada69d169e5", func := "harbinger/harbingerlaw18.RowsHalf", spec := "rowsHalf", unfollowed := true, recurses := true, apart := false, narrowed := true }
def RowsHalfUptoSaid : Prop := rowsHalfUptoRow.holds Try.pinned (OpenSpec.upto rowsHalfSpec)

/-- 'harbingerlaw18.RowsTake', WHERE WHAT IT READS IS OF BULK AT MOST 1048576: true; the input reads as it did. -/
def rowsTakeUptoRow : OpenClaim := { program := "ytkfakkonlnjckaa", sum := "a35d15c0f42dbb0f86dba0b6eef44e8efe4ad921ff6dfd12dd0bfada69d169e5", func := "harbinger/harbingerlaw18.RowsTake", spec := "rowsTake", unfollowed := true, recurses := true, apart := false, narrowed := true }
def RowsTakeUptoSaid : Prop := rowsTakeUptoRow.holds Try.pinned (OpenSpec.upto rowsTakeSpec)

/-- 'harbingerlaw18.RowsBack', WHERE WHAT IT READS IS OF BULK AT MOST 1048576: true; the input reads as it did. -/
def rowsBackUptoRow : OpenClaim := { program := "ytkfakkonlnjckaa", sum := "a35d15c0f42dbb0f86dba0b6eef44e8efe4ad921ff6dfd12dd0bfada69d169e5", func := "harbinger/harbingerlaw18.RowsBack", spec := "rowsBack", unfollowed := true, recurses := true, apart := false, narrowed := true }
def RowsBackUptoSaid : Prop := rowsBackUptoRow.holds Try.pinned (OpenSpec.upto rowsBackSpec)

end Rows
end Go.Proofs.Ytkfakkonlnjckaa
