/- clerk: awake, by the evaluator. -/
import Derived.Test.YtdjjpnobfopplaaGreatDoorEwF
import Derived.Test.YtdjjpnobfopplaaGreatDoorBase
namespace Go.Proofs.YtdjjpnobfopplaaGreatDoor

theorem awake_true : Ev.isT (Ev.evCallF Tryz.prog Ev.noG 100000 4 [] Ev.S0) = true := by kernel_rfl
theorem awake_calls (w : World) : Calls Tryz.prog 4 #[] w fun e w' => e = .returned (.bool true) ∧ Ext w w' :=
  Ev.closed_calls (by kernel_rfl) awake_true w
end Go.Proofs.YtdjjpnobfopplaaGreatDoor
