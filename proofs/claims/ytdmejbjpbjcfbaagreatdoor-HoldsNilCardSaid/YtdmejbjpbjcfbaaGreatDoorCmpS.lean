/- cmp.Compare at texts. -/
import Derived.Test.YtdmejbjpbjcfbaaGreatDoorBase
import Derived.Sort.Walk0
namespace Go.Proofs.YtdmejbjpbjcfbaaGreatDoor
open Go.RowKit

def cmpT (x y : List UInt8) : Int := if x < y then -1 else if y < x then 1 else 0
theorem cmpT_neg (x y : List UInt8) : cmpT x y < 0 ↔ x < y := by
  unfold cmpT
  split
  · simp_all
  · split <;> simp_all
theorem cmpT_zero (x y : List UInt8) : cmpT x y = 0 ↔ x = y := by
  unfold cmpT
  split
  · rename_i h
    constructor
    · intro e; omega
    · rintro rfl; exact absurd h (List.lt_irrefl _)
  · rename_i h
    split
    · rename_i h2
      constructor
      · intro e; omega
      · rintro rfl; exact absurd h2 (List.lt_irrefl _)
    · rename_i h2
      exact ⟨fun _ => List.le_antisymm (List.not_lt.1 h2) (List.not_lt.1 h), fun _ => rfl⟩
theorem isNaNS_calls (x : ByteArray) (w : World) : Calls Tryz.prog 150 #[.string x] w fun e w' => e = .returned (.bool false) ∧ w = w' := by
  have h1 : (x.toList == x.toList) = true := by simp
  go_enter Tryz.func150, Tryz.ntmps150
  go_wp2
  go_ret
  exact ⟨rfl, rfl⟩
theorem compareS_calls (x y : ByteArray) (w : World) : Calls Tryz.prog 106 #[.string x, .string y] w fun e w' => e = .returned (.int .i64 (cmpT x.data.toList y.data.toList)) ∧ w = w' := by
  have hx : x.toList = x.data.toList := Lib.toList_data x
  have hy : y.toList = y.data.toList := Lib.toList_data y
  have HX := Lib.hid hx; have HY := Lib.hid hy; clear hx hy
  by_cases h1 : x.data.toList < y.data.toList
  · have E : Hid (cmpT x.data.toList y.data.toList = -1) := Lib.hid (by unfold cmpT; rw [if_pos h1])
    have b1 : Op.bytesLess x.toList y.toList = true := by rw [HX.out, HY.out, bytesLess_eq]; simpa using h1
    clear h1
    go_enter Tryz.func106, Tryz.ntmps106
    go_wp2_with (go_at_call 150; refine (isNaNS_calls _ _).mono ?_; rintro e w' ⟨rfl, rfl⟩)
    go_ret
    exact ⟨ret_int (by rw [E.out]), rfl⟩
  · have b1 : Op.bytesLess x.toList y.toList = false := by rw [HX.out, HY.out, bytesLess_eq]; simpa using h1
    by_cases h2 : y.data.toList < x.data.toList
    · have E : Hid (cmpT x.data.toList y.data.toList = 1) := Lib.hid (by unfold cmpT; rw [if_neg h1, if_pos h2])
      have e1 : (x.toList == y.toList) = false := by
        rw [HX.out, HY.out, beq_eq_false_iff_ne]
        intro e; rw [e] at h2; exact absurd h2 (List.lt_irrefl _)
      clear h1 h2
      go_enter Tryz.func106, Tryz.ntmps106
      go_wp2_with (go_at_call 150; refine (isNaNS_calls _ _).mono ?_; rintro e w' ⟨rfl, rfl⟩)
      go_ret
      exact ⟨ret_int (by rw [E.out]), rfl⟩
    · have E : Hid (cmpT x.data.toList y.data.toList = 0) := Lib.hid (by unfold cmpT; rw [if_neg h1, if_neg h2])
      have e1 : (x.toList == y.toList) = true := by
        rw [HX.out, HY.out, beq_iff_eq]
        exact List.le_antisymm (List.not_lt.1 h2) (List.not_lt.1 h1)
      clear h1 h2
      go_enter Tryz.func106, Tryz.ntmps106
      go_wp2_with (go_at_call 150; refine (isNaNS_calls _ _).mono ?_; rintro e w' ⟨rfl, rfl⟩)
      go_ret
      exact ⟨ret_int (by rw [E.out]), rfl⟩
end Go.Proofs.YtdmejbjpbjcfbaaGreatDoor
