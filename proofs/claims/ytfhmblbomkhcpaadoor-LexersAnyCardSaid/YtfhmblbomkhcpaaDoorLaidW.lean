/- What the two laid tables give; a world in which they are laid. -/
import Derived.Test.YtfhmblbomkhcpaaDoorDecS
import Derived.Test.YtfhmblbomkhcpaaDoorCards
import Derived.Test.YtfhmblbomkhcpaaDoorTie
import Derived.PinnedBridge
import Derived.LaidMore
import Derived.LaidHandle
import Derived.LaidLaws
import Derived.MakeChecks
import Derived.Lib.LaidU8
import Derived.SevenTiedAt
import Derived.Handed
import Derived.ProofKit
import Derived.OpenShut
import Derived.ShutString
import Derived.ChangeOld
namespace Go.Proofs.YtfhmblbomkhcpaaDoor
open Go.ChangeShapes Go.WideShapes Go.ChangeAt Go.RowKit

abbrev laid2 : List (String × DataW Unit) := [("unicode/utf8.acceptRanges", Rows.laid_unicode_utf8_acceptRanges), ("unicode/utf8.first", Rows.laid_unicode_utf8_first)]
theorem own' : ownKnob Tryd.prog.godebug = none := by kernel_rfl
/-- What the condition gives the walks. -/
theorem tabs_of_laid {W : World} (h : laidMetH Tryd.prog laid2 W) : Tabs W := by
  rw [MakeChecks.laidMetH_plain _ _ _ (by kernel_rfl)] at h
  have h1 := Lib.laidMet.reads h (.tail _ (.head _))
  have h2 := Lib.laidMet.reads h (.head _)
  rw [show Rows.laid_unicode_utf8_first = Lib.firstData from Pinned.utf8First_eq] at h1
  exact utf8Tabs_of_reads (ρ := lays197_ren) { lays197 with } ⟨by kernel_rfl, by kernel_rfl, by kernel_rfl, by kernel_rfl, by kernel_rfl, by kernel_rfl, by kernel_rfl⟩ h1 h2
set_option maxRecDepth 1000000 in
/-- The door's own heap, the library's table laid beside it. -/
theorem world_met (os : Os) (args : Array Value) : laidMetH Tryd.prog laid2 (({ World.doorLaid Tryd.prog 400 os with heap := (World.doorLaid Tryd.prog 400 os).heap.modify 0 (fun | .cells _ t f => .cells (Lib.firstTab.map fun z => Value.int .u8 z).toArray t f | o => o) } : World).forCall (fun _ _ => 0) ⟨#[], args, []⟩).memory :=
  laidMetH_of_parts3 (fuel := 8) (laidMet_of_run' 8 (by kernel_rfl) (by kernel_rfl)) (by kernel_rfl) (by kernel_rfl)
end Go.Proofs.YtfhmblbomkhcpaaDoor
