/- holds.right's look at a read. -/
import Derived.Test.YtdmejbjpbjcfbaaGreatDoorMem
import Derived.Test.YtdmejbjpbjcfbaaGreatDoorHoldDefs
namespace Go.Proofs.YtdmejbjpbjcfbaaGreatDoor
open Go.RowKit

/-- Is a read none of a hold's? -/
def readBad (key : ByteArray) (r : Rd) : Bool := !decide (r.key.toList = key.toList) || decide (20 < (r.value.size : Int)) || (!r.is && !r.value.toList.isEmpty)
set_option maxRecDepth 100000 in
set_option maxHeartbeats 1600000 in
theorem readBad_calls (r : Rd) (key : ByteArray) (bx : Nat) (w : World) (hb : bx < w.heap.size) (hc : w.cell? ⟨bx, 0, none⟩ = some (.string key)) : Calls Tryz.prog 126 #[.agg (encRd r).toArray, .pointer (some ⟨bx, 0, none⟩)] w fun e w' => e = .returned (.bool (readBad key r)) ∧ Ext w w' := by
  obtain ⟨rk, is, rv⟩ := r
  have HX := Lib.hid (show Ext w (w.alloc (.cells #[.string rk, .bool is, .string rv] 100)) from (Below.refl _ w).alloc (Nat.le_refl _) _)
  have hn : readBad key ⟨rk, is, rv⟩ = (!decide (rk.toList = key.toList) || decide (20 < (rv.size : Int)) || (!is && !rv.toList.isEmpty)) := rfl
  have HN := Lib.hid hn; clear hn
  have hne : bx ≠ w.heap.size := by omega
  by_cases g1 : rk.toList = key.toList <;> cases g2 : decide (20 < (rv.size : Int)) <;> cases g4 : rv.toList.isEmpty <;> cases is
  all_goals
    simp only [g1, g2, g4, decide_true, decide_false] at HN
    unfold encRd
    go_enter Tryz.func126, Tryz.ntmps126
    go_wp2_with fail
    go_ret
    exact ⟨ret_bool (by rw [HN.out]; rfl), HX.out⟩
end Go.Proofs.YtdmejbjpbjcfbaaGreatDoor
