/-
  DERIVED. GIVEN WITH THE SEED: THE CARDS: each row of YtjplmghhleoolaaGreatDoorRows.lean that lists a variable, with what it lists TIED to the program's text (the seventh form; the later family's looks); each row that meets fmt, with fmt's text TOLD by the authors' own Lean function (tested against real Go, not proved from fmt's source: count such statements apart). THE CARD IS WHAT COUNTS. Prove the row's statement (the work); the ties are given (YtjplmghhleoolaaGreatDoorTie.lean); close each card by the builder's one call (the guide's Derived/Test/ToyasCard.lean, 'card_holds'). Laid BY PROGRAM, IN A SANDBOX (cutbox-door.mjs). By AI agents, Wed Nov 11 2026. No macro, syntax, notation, axiom, sorry.
-/
import Derived.Test.YtjplmghhleoolaaGreatDoorRows
import GoSem.ClaimSeven
namespace Go.Proofs.YtjplmghhleoolaaGreatDoor
namespace Rows

/-- THE TIED CARD OF 'watershedlaw14.ActTells'. -/
def actTellsCard : Claim7 := { stood := { row := actTellsRow, standIns := [], harness := (true, "87518e20a729521789b62bea05ff0c7f555260dc6efcf922a577076e79a2807b"), looks := true }, kinds := [], alts := [], laidByText := true, laidKinds := [.data, .data, .data, .data, .sentinel, .sentinel, .pinned], laidTests := true, laidLooks := .later }
def ActTellsCardSaid : Prop := Claim7.holds Tryz.pinned (.plain (OpenSpec.ofChange actTellsSpec)) actTellsCard

/-- THE TIED CARD OF 'watershedlaw14.ActEnds'. -/
def actEndsCard : Claim7 := { stood := { row := actEndsRow, standIns := [], harness := (true, "87518e20a729521789b62bea05ff0c7f555260dc6efcf922a577076e79a2807b"), looks := true }, kinds := [], alts := [], laidByText := true, laidKinds := [.data, .data, .data, .data, .sentinel, .sentinel, .pinned], laidTests := true, laidLooks := .later }
def ActEndsCardSaid : Prop := Claim7.holds Tryz.pinned (.plain (OpenSpec.ofChange actEndsSpec)) actEndsCard

/-- THE SECOND FORM's CARD OF 'watershedlaw14.ActTells'. -/
def actTellsUptoCard : Claim7 := { stood := { row := actTellsUptoRow, standIns := [], harness := (true, "87518e20a729521789b62bea05ff0c7f555260dc6efcf922a577076e79a2807b"), looks := true }, kinds := [], alts := [], laidByText := true, laidKinds := [.data, .data, .data, .data, .sentinel, .sentinel, .pinned], laidTests := true, laidLooks := .later }
def ActTellsUptoCardSaid : Prop := Claim7.holds Tryz.pinned (.plain (OpenSpec.upto actTellsSpec)) actTellsUptoCard

/-- THE SECOND FORM's CARD OF 'watershedlaw14.ActEnds'. -/
def actEndsUptoCard : Claim7 := { stood := { row := actEndsUptoRow, standIns := [], harness := (true, "87518e20a729521789b62bea05ff0c7f555260dc6efcf922a577076e79a2807b"), looks := true }, kinds := [], alts := [], laidByText := true, laidKinds := [.data, .data, .data, .data, .sentinel, .sentinel, .pinned], laidTests := true, laidLooks := .later }
def ActEndsUptoCardSaid : Prop := Claim7.holds Tryz.pinned (.plain (OpenSpec.upto actEndsSpec)) actEndsUptoCard
end Rows
end Go.Proofs.YtjplmghhleoolaaGreatDoor
