/- cmp.Compare at texts. -/
import Derived.Test.YtngahblgicjoiaaGreatDoorBase
import Derived.Sort.Walk0
import Derived.Test.YtngahblgicjoiaaGreatDoorKey
import Derived.Test.YtngahblgicjoiaaGreatDoorMem
import Derived.RegionTactic
import Derived.ChangeAlike
namespace Go.Proofs.YtngahblgicjoiaaGreatDoor
open Go.RowKit

def cmpT (x y : List UInt8) : Int := if x < y then -1 else if y < x then 1 else 0
theorem cmpT_neg (x y : List UInt8) : cmpT x y < 0 ↔ x < y := by
  unfold cmpT
  split
  · simp_all
  · split <;> simp_all
theorem cmpT_zero (x y : List UInt8) : cmpT x y = 0 ↔ x = y := by
  unfold cmpT
  split
  · rename_i h
    constructor
    · intro e; omega
    · rintro rfl; exact absurd h (List.lt_irrefl _)
  · rename_i h
    split
    · rename_i h2
      constructor
      · intro e; omega
      · rintro rfl; exact absurd h2 (List.lt_irrefl _)
    · rename_i h2
      exact ⟨fun _ => List.le_antisymm (List.not_lt.1 h2) (List.not_lt.1 h), fun _ => rfl⟩
theorem isNaNS_calls (x : ByteArray) (w : World) : Calls Tryz.prog 231 #[.string x] w fun e w' => e = .returned (.bool false) ∧ w = w' := by
  have h1 : (x.toList == x.toList) = true := by simp
  go_enter Tryz.func231, Tryz.ntmps231
  go_wp2
  go_ret
  exact ⟨rfl, rfl⟩
end Go.Proofs.YtngahblgicjoiaaGreatDoor
/- span: ends, Right and Has. -/
namespace Go.Proofs.YtngahblgicjoiaaGreatDoor
open Go.RowKit

/-- Is the end above a text? -/
def aboveB (h t : List UInt8) : Bool := h.isEmpty || decide (t < h)
/-- Is a span right? -/
def spanB (lo hi : List UInt8) : Bool := (lo.isEmpty || keyL lo) && (hi.isEmpty || keyL hi) && aboveB hi lo
/-- Has a span a key? -/
def hasB (lo hi k : List UInt8) : Bool := spanB lo hi && keyL k && decide (¬ k < lo) && aboveB hi k

theorem cmpT_pos (x y : List UInt8) : decide (0 < cmpT x y) = decide (y < x) := by
  unfold cmpT
  split
  · rename_i h
    have : ¬ y < x := fun e => List.lt_irrefl _ (List.lt_trans h e)
    simp [this]
  · split <;> simp_all
theorem cmpT_le (x y : List UInt8) : decide (cmpT x y ≤ 0) = decide (¬ y < x) := by
  unfold cmpT
  split
  · rename_i h
    have : ¬ y < x := fun e => List.lt_irrefl _ (List.lt_trans h e)
    simp [this]
  · split <;> simp_all
end Go.Proofs.YtngahblgicjoiaaGreatDoor
