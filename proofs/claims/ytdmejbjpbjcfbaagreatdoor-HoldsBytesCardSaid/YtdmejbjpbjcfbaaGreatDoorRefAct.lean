/- The reference of layer 14: Name, Older, Key, value, one, Right; and the package act's Name. -/
import Derived.Test.YtdmejbjpbjcfbaaGreatDoorMem
namespace Go.Proofs.YtdmejbjpbjcfbaaGreatDoor
open Go.RowKit

def nameB (c n : Int) : Bool := decide (1 ≤ c) && decide (c ≤ 8) && decide (1 ≤ n) && decide (n ≤ 1073741824)
theorem name_calls (c n : Int) (w : World) : Calls Tryz.prog 127 #[.agg #[.int .i64 c, .int .i64 n]] w fun e w' => e = .returned (.bool (nameB c n)) ∧ Ext w w' := by
  have HX := Lib.hid (show Ext w (w.alloc (.cells #[.int .i64 c, .int .i64 n] 24)) from (Below.refl _ w).alloc (Nat.le_refl _) _)
  have e0 : nameB c n = (decide (1 ≤ c) && decide (c ≤ 8) && decide (1 ≤ n) && decide (n ≤ 1073741824)) := rfl
  cases h1 : decide (1 ≤ c) <;> cases h2 : decide (c ≤ 8) <;> cases h3 : decide (1 ≤ n) <;> cases h4 : decide (n ≤ 1073741824) <;> rw [h1, h2, h3, h4] at e0
  all_goals
    have E0 := Lib.hid e0; clear e0
    go_enter Tryz.func127, Tryz.ntmps127
    go_wp2
    go_ret
    exact ⟨ret_bool (by rw [E0.out]; rfl), HX.out⟩
theorem refName_calls (c n : Int) (w : World) : Calls Tryz.prog 129 #[.agg #[.int .i64 c, .int .i64 n]] w fun e w' => e = .returned (.bool (nameB c n)) ∧ Ext w w' := by
  have HX := Lib.hid (show Ext w (w.alloc (.cells #[.int .i64 c, .int .i64 n] 24)) from (Below.refl _ w).alloc (Nat.le_refl _) _)
  have e0 : nameB c n = (decide (1 ≤ c) && decide (c ≤ 8) && decide (1 ≤ n) && decide (n ≤ 1073741824)) := rfl
  cases h1 : decide (1 ≤ c) <;> cases h2 : decide (c ≤ 8) <;> cases h3 : decide (1 ≤ n) <;> cases h4 : decide (n ≤ 1073741824) <;> rw [h1, h2, h3, h4] at e0
  all_goals
    have E0 := Lib.hid e0; clear e0
    go_enter Tryz.func129, Tryz.ntmps129
    go_wp2
    go_ret
    exact ⟨ret_bool (by rw [E0.out]; rfl), HX.out⟩

set_option maxRecDepth 100000 in
set_option maxHeartbeats 400000 in
theorem refKey_calls (s : ByteArray) (w : World) (hs : s.size ≤ 140737488351232) : Calls Tryz.prog 191 #[.string s] w fun e w' => e = .returned (.bool (keyL s.data.toList)) ∧ w = w' := by
  have hsz := Lib.size_eq s
  by_cases h1 : s.size < 1
  · have e0 : keyL s.data.toList = false := by
      have : s.data.toList = [] := List.eq_nil_of_length_eq_zero (by omega)
      rw [this]; rfl
    have h00 : s.size = 0 := by omega
    have g1 : decide ((s.size : Int) < 1) = true := decide_eq_true (by omega)
    have E0 := Lib.hid e0; clear e0 hsz
    go_enter Tryz.func191, Tryz.ntmps191
    go_wp2
    all_goals (go_ret; exact ⟨ret_bool (by rw [E0.out]), rfl⟩)
  · by_cases h20 : 20 < s.size
    · have e0 : keyL s.data.toList = false := by unfold keyL; rw [← hsz]; simp; omega
      have E0 := Lib.hid e0; clear e0 hsz
      go_enter Tryz.func191, Tryz.ntmps191
      go_wp2
      all_goals (go_ret; exact ⟨ret_bool (by rw [E0.out]), rfl⟩)
    · have e0 : keyL s.data.toList = s.data.toList.all keyC := by
        unfold keyL
        rw [← hsz]
        have : s.data.toList.isEmpty = false := by
          cases h : s.data.toList with
          | nil => rw [h, List.length_nil] at hsz; omega
          | cons a r => rfl
        rw [this]; simp; omega
      have g1 : decide ((s.size : Int) < 1) = false := decide_eq_false (by omega)
      have g2 : decide ((20 : Int) < (s.size : Int)) = false := decide_eq_false (by omega)
      have E0 := Lib.hid e0; have HZ := Lib.hid hsz; clear e0 hsz
      go_enter Tryz.func191, Tryz.ntmps191
      go_wp2
      go_loop [3] (fun i => ∃ k : Nat, k ≤ s.size ∧ i = .int .i64 k ∧ (s.data.toList.take k).all keyC = true) (fun i => s.size - (intOf i).toNat)
      case atStart => exact ⟨0, by omega, rfl, by simp⟩
      case round =>
        obtain ⟨k, hk, rfl, hall⟩ := hrel
        have HA := Lib.hid hall; clear hall
        by_cases hlt : k < s.size
        · have htk : s.data.toList.take (k + 1) = s.data.toList.take k ++ [s[k]] := by
            rw [List.take_succ_eq_append_getElem (by rw [← HZ.out]; exact hlt)]; rfl
          have hmem : s[k] ∈ s.data.toList := by
            have : s.data.toList[k]'(by rw [← HZ.out]; exact hlt) = s[k] := rfl
            rw [← this]; exact List.getElem_mem _
          have HT := Lib.hid htk; have HM := Lib.hid hmem
          clear htk hmem
          have hcases : (s[k].toNat < 48 ∨ (57 < s[k].toNat ∧ s[k].toNat < 97) ∨ 122 < s[k].toNat) ∨ (48 ≤ s[k].toNat ∧ s[k].toNat ≤ 57) ∨ (97 ≤ s[k].toNat ∧ s[k].toNat ≤ 122) := by omega
          rcases hcases with h | h
          · have hno : keyC s[k] = false := by unfold keyC; simp; omega
            have e1 : s.data.toList.all keyC = false := by
              rw [List.all_eq_false]; exact ⟨s[k], HM.out, by simp [hno]⟩
            have E1 := Lib.hid e1
            clear hno e1
            rcases h with h | ⟨ha, hb⟩ | h
            all_goals
              go_wp2
              all_goals first | (go_ret; exact ⟨ret_bool (by rw [E0.out, E1.out]), rfl⟩) | (exfalso; rename_i h; simp at h; omega)
          · have hyes : keyC s[k] = true := by unfold keyC; simp; omega
            have e1 : (s.data.toList.take (k + 1)).all keyC = true := by rw [HT.out, List.all_append, HA.out]; simp [hyes]
            have E1 := Lib.hid e1
            clear hyes e1
            rcases h with ⟨ha, hb⟩ | ⟨ha, hb⟩
            all_goals
              first
                | (have hd : decide ((s[k].toNat : Int) ≤ 57) = true := by simp; omega)
                | (have hd : decide ((s[k].toNat : Int) ≤ 122) = true := by simp; omega)
              go_wp2
              go_round
              case rel => exact ⟨k + 1, by omega, by go_num, E1.out⟩
              case measure => simp [intOf]; omega
        · have e1 : s.data.toList.all keyC = true := by
            have := HA.out
            rwa [List.take_of_length_le (by rw [← HZ.out]; omega)] at this
          have E1 := Lib.hid e1; clear e1
          go_wp2
          go_ret
          exact ⟨ret_bool (by rw [E0.out, E1.out]), rfl⟩
end Go.Proofs.YtdmejbjpbjcfbaaGreatDoor
