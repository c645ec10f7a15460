/-
  DERIVED. GIVEN WITH THE SEED: THE CARDS: each row of YtbnclifpdmpjnaaGreatDoorRows.lean that lists a variable, with what it lists TIED to the program's text (the seventh form; the later family's looks); each row that meets fmt, with fmt's text TOLD by the authors' own Lean function (tested against real Go, not proved from fmt's source: count such statements apart). THE CARD IS WHAT COUNTS. Prove the row's statement (the work); the ties are given (YtbnclifpdmpjnaaGreatDoorTie.lean); close each card by the builder's one call (the guide's Derived/Test/ToyasCard.lean, 'card_holds'). Laid BY PROGRAM, IN A SANDBOX (cutbox-door.mjs). By AI agents, Wed Nov 11 2026. No macro, syntax, notation, axiom, sorry.
-/
import Derived.Test.YtbnclifpdmpjnaaGreatDoorRows
import GoSem.ClaimSeven
namespace Go.Proofs.YtbnclifpdmpjnaaGreatDoor
namespace Rows

/-- THE TIED CARD OF 'watershedlaw30.WitnessFrom'. -/
def witnessFromCard : Claim7 := { stood := { row := witnessFromRow, standIns := [], harness := (true, "7db8736b304226196bbcc17cb2f0daae23890883ec8e9bac90b3dcf2e53b1151"), looks := true }, kinds := [], alts := [], laidByText := true, laidKinds := [.data, .data, .data, .data, .sentinel, .sentinel, .pinned], laidTests := true, laidLooks := .later }
def WitnessFromCardSaid : Prop := Claim7.holds Tryz.pinned (.plain (OpenSpec.ofChange witnessFromSpec)) witnessFromCard

/-- THE TIED CARD OF 'watershedlaw30.WitnessTales'. -/
def witnessTalesCard : Claim7 := { stood := { row := witnessTalesRow, standIns := [], harness := (true, "7db8736b304226196bbcc17cb2f0daae23890883ec8e9bac90b3dcf2e53b1151"), looks := true }, kinds := [], alts := [], laidByText := true, laidKinds := [.data, .data, .data, .data, .sentinel, .sentinel, .pinned], laidTests := true, laidLooks := .later }
def WitnessTalesCardSaid : Prop := Claim7.holds Tryz.pinned (.plain (OpenSpec.ofChange witnessTalesSpec)) witnessTalesCard

/-- THE SECOND FORM's CARD OF 'watershedlaw30.WitnessFrom'. -/
def witnessFromUptoCard : Claim7 := { stood := { row := witnessFromUptoRow, standIns := [], harness := (true, "7db8736b304226196bbcc17cb2f0daae23890883ec8e9bac90b3dcf2e53b1151"), looks := true }, kinds := [], alts := [], laidByText := true, laidKinds := [.data, .data, .data, .data, .sentinel, .sentinel, .pinned], laidTests := true, laidLooks := .later }
def WitnessFromUptoCardSaid : Prop := Claim7.holds Tryz.pinned (.plain (OpenSpec.upto witnessFromSpec)) witnessFromUptoCard

/-- THE SECOND FORM's CARD OF 'watershedlaw30.WitnessTales'. -/
def witnessTalesUptoCard : Claim7 := { stood := { row := witnessTalesUptoRow, standIns := [], harness := (true, "7db8736b304226196bbcc17cb2f0daae23890883ec8e9bac90b3dcf2e53b1151"), looks := true }, kinds := [], alts := [], laidByText := true, laidKinds := [.data, .data, .data, .data, .sentinel, .sentinel, .pinned], laidTests := true, laidLooks := .later }
def WitnessTalesUptoCardSaid : Prop := Claim7.holds Tryz.pinned (.plain (OpenSpec.upto witnessTalesSpec)) witnessTalesUptoCard
end Rows
end Go.Proofs.YtbnclifpdmpjnaaGreatDoor
