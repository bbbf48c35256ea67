/-
  DERIVED. GIVEN WITH THE SEED: THE CARDS: each row of YtfhmblbomkhcpaaDoorRows.lean that lists a variable, with what it lists TIED to the program's text (the seventh form; the later family's looks); each row that meets fmt, with fmt's text TOLD by the authors' own Lean function (tested against real Go, not proved from fmt's source: count such statements apart). THE CARD IS WHAT COUNTS. Prove the row's statement (the work); the ties are given (YtfhmblbomkhcpaaDoorTie.lean); close each card by the builder's one call (the guide's Derived/Test/ToyasCard.lean, 'card_holds'). Laid BY PROGRAM, IN A SANDBOX (cutbox-door.mjs). By AI agents, Wed Nov 11 2026. No macro, syntax, notation, axiom, sorry.
-/
import Derived.Test.YtfhmblbomkhcpaaDoorRows
import GoSem.ClaimSeven
namespace Go.Proofs.YtfhmblbomkhcpaaDoor
namespace Rows

/-- THE TIED CARD OF 'harbingerlaw11.LexersAny'. -/
def lexersAnyCard : Claim7 := { stood := { row := lexersAnyRow, standIns := [], harness := (true, "63e0b52a9fac032c0ac5f8299a7d070a50e241e2b9d440b7f0dcc0b4094f6cfa"), looks := false }, kinds := [], alts := [], laidByText := true, laidKinds := [.data, .pinned], laidTests := true, laidLooks := .later }
def LexersAnyCardSaid : Prop := Claim7.holds Tryd.pinned (.plain (OpenSpec.ofChange lexersAnySpec)) lexersAnyCard

/-- THE TIED CARD OF 'harbingerlaw11.LexersVoid'. -/
def lexersVoidCard : Claim7 := { stood := { row := lexersVoidRow, standIns := [], harness := (true, "63e0b52a9fac032c0ac5f8299a7d070a50e241e2b9d440b7f0dcc0b4094f6cfa"), looks := false }, kinds := [], alts := [], laidByText := true, laidKinds := [.data, .pinned], laidTests := true, laidLooks := .later }
def LexersVoidCardSaid : Prop := Claim7.holds Tryd.pinned (.plain (OpenSpec.ofChange lexersVoidSpec)) lexersVoidCard

/-- THE TIED CARD OF 'harbingerlaw11.LexersWhole'. -/
def lexersWholeCard : Claim7 := { stood := { row := lexersWholeRow, standIns := [], harness := (true, "63e0b52a9fac032c0ac5f8299a7d070a50e241e2b9d440b7f0dcc0b4094f6cfa"), looks := false }, kinds := [], alts := [], laidByText := true, laidKinds := [.data, .pinned], laidTests := true, laidLooks := .later }
def LexersWholeCardSaid : Prop := Claim7.holds Tryd.pinned (.plain (OpenSpec.ofChange lexersWholeSpec)) lexersWholeCard

/-- THE TIED CARD OF 'harbingerlaw11.LexersBehind'. -/
def lexersBehindCard : Claim7 := { stood := { row := lexersBehindRow, standIns := [], harness := (true, "63e0b52a9fac032c0ac5f8299a7d070a50e241e2b9d440b7f0dcc0b4094f6cfa"), looks := false }, kinds := [], alts := [], laidByText := true, laidKinds := [.data, .pinned], laidTests := true, laidLooks := .later }
def LexersBehindCardSaid : Prop := Claim7.holds Tryd.pinned (.plain (OpenSpec.ofChange lexersBehindSpec)) lexersBehindCard

/-- THE SECOND FORM's CARD OF 'harbingerlaw11.LexersAny'. -/
def lexersAnyUptoCard : Claim7 := { stood := { row := lexersAnyUptoRow, standIns := [], harness := (true, "63e0b52a9fac032c0ac5f8299a7d070a50e241e2b9d440b7f0dcc0b4094f6cfa"), looks := false }, kinds := [], alts := [], laidByText := true, laidKinds := [.data, .pinned], laidTests := true, laidLooks := .later }
def LexersAnyUptoCardSaid : Prop := Claim7.holds Tryd.pinned (.plain (OpenSpec.upto lexersAnySpec)) lexersAnyUptoCard

/-- THE SECOND FORM's CARD OF 'harbingerlaw11.LexersVoid'. -/
def lexersVoidUptoCard : Claim7 := { stood := { row := lexersVoidUptoRow, standIns := [], harness := (true, "63e0b52a9fac032c0ac5f8299a7d070a50e241e2b9d440b7f0dcc0b4094f6cfa"), looks := false }, kinds := [], alts := [], laidByText := true, laidKinds := [.data, .pinned], laidTests := true, laidLooks := .later }
def LexersVoidUptoCardSaid : Prop := Claim7.holds Tryd.pinned (.plain (OpenSpec.upto lexersVoidSpec)) lexersVoidUptoCard

/-- THE SECOND FORM's CARD OF 'harbingerlaw11.LexersWhole'. -/
def lexersWholeUptoCard : Claim7 := { stood := { row := lexersWholeUptoRow, standIns := [], harness := (true, "63e0b52a9fac032c0ac5f8299a7d070a50e241e2b9d440b7f0dcc0b4094f6cfa"), looks := false }, kinds := [], alts := [], laidByText := true, laidKinds := [.data, .pinned], laidTests := true, laidLooks := .later }
def LexersWholeUptoCardSaid : Prop := Claim7.holds Tryd.pinned (.plain (OpenSpec.upto lexersWholeSpec)) lexersWholeUptoCard

/-- THE SECOND FORM's CARD OF 'harbingerlaw11.LexersBehind'. -/
def lexersBehindUptoCard : Claim7 := { stood := { row := lexersBehindUptoRow, standIns := [], harness := (true, "63e0b52a9fac032c0ac5f8299a7d070a50e241e2b9d440b7f0dcc0b4094f6cfa"), looks := false }, kinds := [], alts := [], laidByText := true, laidKinds := [.data, .pinned], laidTests := true, laidLooks := .later }
def LexersBehindUptoCardSaid : Prop := Claim7.holds Tryd.pinned (.plain (OpenSpec.upto lexersBehindSpec)) lexersBehindUptoCard
end Rows
end Go.Proofs.YtfhmblbomkhcpaaDoor
