/-
  DERIVED. GIVEN WITH THE SEED: THE CARDS: each row of YtmpmggejhnmakaaGreatDoorRows.lean that lists a variable, with what it lists TIED to the program's text (the seventh form; the later family's looks); each row that meets fmt, with fmt's text TOLD by the authors' own Lean function (tested against real Go, not proved from fmt's source: count such statements apart). THE CARD IS WHAT COUNTS. Prove the row's statement (the work); the ties are given (YtmpmggejhnmakaaGreatDoorTie.lean); close each card by the builder's one call (the guide's Derived/Test/ToyasCard.lean, 'card_holds'). Laid BY PROGRAM, IN A SANDBOX (cutbox-door.mjs). By AI agents, Wed Nov 11 2026. No macro, syntax, notation, axiom, sorry.
-/
import Derived.Test.YtmpmggejhnmakaaGreatDoorRows
import GoSem.ClaimSeven
namespace Go.Proofs.YtmpmggejhnmakaaGreatDoor
namespace Rows

/-- THE TIED CARD OF 'watershedlaw18.TractHeld'. -/
def tractHeldCard : Claim7 := { stood := { row := tractHeldRow, standIns := [], harness := (true, "715d638f859c5fab88b55bdbbcd8c5bc518480dfcc2a6b1699ac170f154e4eae"), looks := true }, kinds := [], alts := [], laidByText := true, laidKinds := [.data, .data, .data, .data, .sentinel, .sentinel, .pinned], laidTests := true, laidLooks := .later }
def TractHeldCardSaid : Prop := Claim7.holds Tryz.pinned (.plain (OpenSpec.ofChange tractHeldSpec)) tractHeldCard

/-- THE TIED CARD OF 'watershedlaw18.TractHandoff'. -/
def tractHandoffCard : Claim7 := { stood := { row := tractHandoffRow, standIns := [], harness := (true, "715d638f859c5fab88b55bdbbcd8c5bc518480dfcc2a6b1699ac170f154e4eae"), looks := true }, kinds := [], alts := [], laidByText := true, laidKinds := [.data, .data, .data, .data, .sentinel, .sentinel, .pinned], laidTests := true, laidLooks := .later }
def TractHandoffCardSaid : Prop := Claim7.holds Tryz.pinned (.plain (OpenSpec.ofChange tractHandoffSpec)) tractHandoffCard

/-- THE TIED CARD OF 'watershedlaw18.TractLate'. -/
def tractLateCard : Claim7 := { stood := { row := tractLateRow, standIns := [], harness := (true, "715d638f859c5fab88b55bdbbcd8c5bc518480dfcc2a6b1699ac170f154e4eae"), looks := true }, kinds := [], alts := [], laidByText := true, laidKinds := [.data, .data, .data, .data, .sentinel, .sentinel, .pinned], laidTests := true, laidLooks := .later }
def TractLateCardSaid : Prop := Claim7.holds Tryz.pinned (.plain (OpenSpec.ofChange tractLateSpec)) tractLateCard

/-- THE SECOND FORM's CARD OF 'watershedlaw18.TractHeld'. -/
def tractHeldUptoCard : Claim7 := { stood := { row := tractHeldUptoRow, standIns := [], harness := (true, "715d638f859c5fab88b55bdbbcd8c5bc518480dfcc2a6b1699ac170f154e4eae"), looks := true }, kinds := [], alts := [], laidByText := true, laidKinds := [.data, .data, .data, .data, .sentinel, .sentinel, .pinned], laidTests := true, laidLooks := .later }
def TractHeldUptoCardSaid : Prop := Claim7.holds Tryz.pinned (.plain (OpenSpec.upto tractHeldSpec)) tractHeldUptoCard

/-- THE SECOND FORM's CARD OF 'watershedlaw18.TractHandoff'. -/
def tractHandoffUptoCard : Claim7 := { stood := { row := tractHandoffUptoRow, standIns := [], harness := (true, "715d638f859c5fab88b55bdbbcd8c5bc518480dfcc2a6b1699ac170f154e4eae"), looks := true }, kinds := [], alts := [], laidByText := true, laidKinds := [.data, .data, .data, .data, .sentinel, .sentinel, .pinned], laidTests := true, laidLooks := .later }
def TractHandoffUptoCardSaid : Prop := Claim7.holds Tryz.pinned (.plain (OpenSpec.upto tractHandoffSpec)) tractHandoffUptoCard

/-- THE SECOND FORM's CARD OF 'watershedlaw18.TractLate'. -/
def tractLateUptoCard : Claim7 := { stood := { row := tractLateUptoRow, standIns := [], harness := (true, "715d638f859c5fab88b55bdbbcd8c5bc518480dfcc2a6b1699ac170f154e4eae"), looks := true }, kinds := [], alts := [], laidByText := true, laidKinds := [.data, .data, .data, .data, .sentinel, .sentinel, .pinned], laidTests := true, laidLooks := .later }
def TractLateUptoCardSaid : Prop := Claim7.holds Tryz.pinned (.plain (OpenSpec.upto tractLateSpec)) tractLateUptoCard
end Rows
end Go.Proofs.YtmpmggejhnmakaaGreatDoor
