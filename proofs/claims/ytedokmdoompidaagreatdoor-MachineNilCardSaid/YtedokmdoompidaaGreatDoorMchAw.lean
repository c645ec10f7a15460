/- machine: awake, by the evaluator. -/
import Derived.Test.YtedokmdoompidaaGreatDoorEvSo
namespace Go.Proofs.YtedokmdoompidaaGreatDoor

/-- The functions that are told by their contracts. -/
def hkL : Ev.Hk := Ev.libHk 224 282 9 275
theorem awake_true : Ev.isT (Ev.evCallF hkL Tryz.prog Ev.noG 100000 4 [] Ev.S0) = true := by kernel_rfl
theorem awake_calls (w : World) : Calls Tryz.prog 4 #[] w fun e w' => e = .returned (.bool true) ∧ RowKit.Below w.heap.size w w' :=
  Ev.closed_calls (by kernel_rfl) (Ev.libHk_snd _ _) awake_true w
end Go.Proofs.YtedokmdoompidaaGreatDoor
