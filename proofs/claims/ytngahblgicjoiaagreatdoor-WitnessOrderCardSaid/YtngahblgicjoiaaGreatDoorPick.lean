/- Pick: any number, brought into a range. -/
import Derived.Test.YtngahblgicjoiaaGreatDoorMem
import Derived.IntWalk
namespace Go.Proofs.YtngahblgicjoiaaGreatDoor
open Go.RowKit

theorem pick_calls (x n : Int) (w : World) (hn0 : 1 ≤ n) (hn1 : n ≤ 1000000) :
    Calls Tryz.prog 37 #[.int .i64 x, .int .i64 n] w fun e w' => ∃ k : Nat, e = .returned (.int .i64 k) ∧ (k : Int) < n ∧ w = w' := by
  have hm1 := Int.tmod_lt_of_pos x (show 0 < n by omega)
  have hm0 : -n < x.tmod n := by
    have h := Int.lt_tmod_of_pos x (show 0 < n by omega)
    omega
  go_enter Tryz.func37, Tryz.ntmps37
  go_wp2
  all_goals go_ret
  · exact ⟨(x.tmod n + n).toNat, ret_int (by omega), by omega, rfl⟩
  · exact ⟨(x.tmod n).toNat, ret_int (by omega), by omega, rfl⟩
end Go.Proofs.YtngahblgicjoiaaGreatDoor
