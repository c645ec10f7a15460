/-
  DERIVED. GIVEN WITH THE SEED: THE CARDS: each row of YtdjjpnobfopplaaGreatDoorRows.lean that lists a variable, with what it lists TIED to the program's text (the seventh form; the later family's looks); each row that meets fmt, with fmt's text TOLD by the authors' own Lean function (tested against real Go, not proved from fmt's source: count such statements apart). THE CARD IS WHAT COUNTS. Prove the row's statement (the work); the ties are given (YtdjjpnobfopplaaGreatDoorTie.lean); close each card by the builder's one call (the guide's Derived/Test/ToyasCard.lean, 'card_holds'). Laid BY PROGRAM, IN A SANDBOX (cutbox-door.mjs). By AI agents, Wed Nov 11 2026. No macro, syntax, notation, axiom, sorry.
-/
import Derived.Test.YtdjjpnobfopplaaGreatDoorRows
import GoSem.ClaimSeven
namespace Go.Proofs.YtdjjpnobfopplaaGreatDoor
namespace Rows

/-- THE TIED CARD OF 'watershedlaw26.ClerkNil'. -/
def clerkNilCard : Claim7 := { stood := { row := clerkNilRow, standIns := [], harness := (true, "9f8d96e5527e38576c6c702d54096d024d0b4457e315c47bd2829fa06f0fcb49"), looks := false }, kinds := [], alts := [], laidByText := true, laidKinds := [.data, .pinned], laidTests := true, laidLooks := .later }
def ClerkNilCardSaid : Prop := Claim7.holds Tryz.pinned (.plain (OpenSpec.ofChange clerkNilSpec)) clerkNilCard

/-- THE SECOND FORM's CARD OF 'watershedlaw26.ClerkNil'. -/
def clerkNilUptoCard : Claim7 := { stood := { row := clerkNilUptoRow, standIns := [], harness := (true, "9f8d96e5527e38576c6c702d54096d024d0b4457e315c47bd2829fa06f0fcb49"), looks := false }, kinds := [], alts := [], laidByText := true, laidKinds := [.data, .pinned], laidTests := true, laidLooks := .later }
def ClerkNilUptoCardSaid : Prop := Claim7.holds Tryz.pinned (.plain (OpenSpec.upto clerkNilSpec)) clerkNilUptoCard
end Rows
end Go.Proofs.YtdjjpnobfopplaaGreatDoor
