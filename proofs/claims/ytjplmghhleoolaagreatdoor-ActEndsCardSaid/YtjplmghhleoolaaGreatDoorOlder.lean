/- Older: is one name older than another? -/
import Derived.Test.YtjplmghhleoolaaGreatDoorMem
namespace Go.Proofs.YtjplmghhleoolaaGreatDoor
open Go.RowKit

def olderB (c1 n1 c2 n2 : Int) : Bool := decide (n1 < n2) || (decide (n1 = n2) && decide (c1 < c2))
theorem older_calls (c1 n1 c2 n2 : Int) (w : World) :
    Calls Tryz.prog 15 #[.agg #[.int .i64 c1, .int .i64 n1], .agg #[.int .i64 c2, .int .i64 n2]] w fun e w' => e = .returned (.bool (olderB c1 n1 c2 n2)) ∧ Ext w w' := by
  have hx : Ext w ((w.alloc (.cells #[.int .i64 c1, .int .i64 n1] 24)).alloc (.cells #[.int .i64 c2, .int .i64 n2] 24)) := ((Below.refl _ w).alloc (Nat.le_refl _) _).alloc (by simp) _
  have HX := Lib.hid hx; clear hx
  rcases Int.lt_trichotomy n1 n2 with h | h | h
  · have g1 : decide (n1 < n2) = true := by simp; omega
    go_enter Tryz.func15, Tryz.ntmps15
    go_wp2
    all_goals (go_ret; exact ⟨ret_bool (by simp [olderB, h]), HX.out⟩)
  · subst h
    go_enter Tryz.func15, Tryz.ntmps15
    go_wp2
    all_goals (go_ret; exact ⟨ret_bool (by simp [olderB]), HX.out⟩)
  · have g1 : decide (n1 < n2) = false := by simp; omega
    have g2 : (n1 == n2) = false := by simp; omega
    go_enter Tryz.func15, Tryz.ntmps15
    go_wp2
    all_goals (go_ret; exact ⟨ret_bool (by simp [olderB]; omega), HX.out⟩)
end Go.Proofs.YtjplmghhleoolaaGreatDoor
