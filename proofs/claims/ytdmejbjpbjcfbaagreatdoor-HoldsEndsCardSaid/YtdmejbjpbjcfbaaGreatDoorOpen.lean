/- A slice of acts, opened: from the data that a row reads to the cells that a walk reads. -/
import Derived.Test.YtdmejbjpbjcfbaaGreatDoorMem
import Derived.ProofKit
import Derived.Deep.Slices
import Derived.Deep.Strs
import Derived.Lib.SmallJoins
import Derived.SizedLaws
namespace Go.Proofs.YtdmejbjpbjcfbaaGreatDoor
open Go.ChangeShapes Go.WideShapes Go.ChangeAt Go.RowKit Go.Deep Go.Joins
def ActD.fits (a : ActD) (ws : List Nat) : Prop := (0 ≤ a.kind ∧ a.kind ≤ 255) ∧ (-9223372036854775808 ≤ a.num ∧ a.num ≤ 9223372036854775807) ∧ a.key.size ∈ ws ∧ a.value.size ∈ ws
theorem ActD.fits.ok {a : ActD} {ws : List Nat} (h : a.fits ws) (hw : ws.all (· ≤ reachBytes) = true) : a.ok := by
  obtain ⟨⟨k0, k1⟩, ⟨n0, n1⟩, h1, h2⟩ := h
  have b1 := List.all_eq_true.1 hw _ h1
  have b2 := List.all_eq_true.1 hw _ h2
  simp only [decide_eq_true_eq] at b1 b2
  exact ⟨k0, k1, b1, b2, n0, n1⟩
end Go.Proofs.YtdmejbjpbjcfbaaGreatDoor
