/- act.right: is an act right? -/
import Derived.Test.YtjplmghhleoolaaGreatDoorRightA
import Derived.Test.YtjplmghhleoolaaGreatDoorRightB
import Derived.Test.YtjplmghhleoolaaGreatDoorRightC
import Derived.Test.YtjplmghhleoolaaGreatDoorRightD
namespace Go.Proofs.YtjplmghhleoolaaGreatDoor
open Go.RowKit
theorem right_calls (a : ActD) (w : World) (hok : a.ok) : Calls Tryz.prog 35 #[.agg (encAct a).toArray] w fun e w' => e = .returned (.bool (rightB a)) ∧ Ext w w' := by
  by_cases hE : a.value.data.toList = []
  · exact right_A a w hok hE
  · by_cases hA : a.value.size ≤ 20
    · cases hX : textL a.value.data.toList
      · exact right_D a w hok hE hA hX
      · exact right_C a w hok hE hA hX
    · exact right_B a w hok hE (by omega)
end Go.Proofs.YtjplmghhleoolaaGreatDoor
