/- What the rows' listed variables are; a world in which they hold. -/
import Derived.Test.YtdmejbjpbjcfbaaGreatDoorBase
import Derived.Test.YtdmejbjpbjcfbaaGreatDoorRows
import Derived.ProofKit
import Derived.Lay
import Derived.LaidMore
import Derived.Stop.Joined
import Derived.Stop.LaidErr
import Derived.Lib.LaidTab
namespace Go.Proofs.YtdmejbjpbjcfbaaGreatDoor
open Go.RowKit

theorem own : ownKnob Tryz.prog.godebug = none := by kernel_rfl

/-- The variables that every row lists. -/
def laidAllD : List (String × DataW Unit) := [("unicode/utf8.acceptRanges", Rows.laid_unicode_utf8_acceptRanges), ("unicode/utf8.first", Rows.laid_unicode_utf8_first)]

theorem door_met (os : Os) (args : Array Value) : laidMetH Tryz.prog laidAllD ((World.laidAll Tryz.prog os laidAllD).forCall (fun _ _ => 0) ⟨#[], args, []⟩).memory := by
  rw [MakeChecks.laidMetH_plain _ _ _ (by kernel_rfl)]
  exact laidMet_laidAll _ (by kernel_rfl) (by kernel_rfl)
end Go.Proofs.YtdmejbjpbjcfbaaGreatDoor
