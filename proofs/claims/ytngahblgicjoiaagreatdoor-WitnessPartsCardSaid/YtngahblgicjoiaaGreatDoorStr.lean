/- The package act's functions on numbers and their texts: what each returns. -/
import Derived.Test.YtngahblgicjoiaaGreatDoorLV
import Derived.Test.YtngahblgicjoiaaGreatDoorKey
import Derived.Test.YtngahblgicjoiaaGreatDoorShelf
import Derived.Test.YtngahblgicjoiaaGreatDoorMem
namespace Go.Proofs.YtngahblgicjoiaaGreatDoor
open Go.RowKit

theorem value_calls (n : Int) {B : Nat} (w : World) (hv : LV B w) : Calls Tryz.prog 188 #[.int .i64 n] w fun e w' => e = .returned (.string ⟨(valueL n).toArray⟩) ∧ Ext w w' := by
  obtain ⟨c0, c1⟩ := cutI_bd n
  have ht := hv.pow10
  clear hv
  have HT := Lib.hid ht; clear ht
  go_enter Tryz.func188, Tryz.ntmps188
  go_wp2_with (first | (go_at_call 181; refine (cut_calls _ _).mono ?_; rintro e w' ⟨rfl, rfl⟩) | (go_at_call 217; refine (Tryz.strconv_Itoa _ (by omega) (by omega) _ HT.out).mono ?_; rintro e w' ⟨rfl, k, os, rfl⟩))
  go_ret
  exact ⟨rfl, Lib.below_grow _ _ (Nat.le_refl _) _ _⟩

theorem trimPrefix_calls (s p : ByteArray) (w : World) : Calls Tryz.prog 218 #[.string s, .string p] w fun e w' => e = .returned (.string ⟨(Lib.trimPrefix s.data.toList p.data.toList).toArray⟩) ∧ w = w' :=
  (Tryz.strings_TrimPrefix s p w).mono fun _ _ ⟨h, k⟩ => ⟨h, k.symm⟩

/-- What strconv.Atoi hands back: the number, and whether there was an error. -/
def AtoiEnd (r : Lib.NumEnd Int) (e : Ending) : Prop :=
  match r with
  | .ok n => e = .returned (.tuple #[.int .i64 n, .nilIface])
  | _ => ∃ n t p, e = .returned (.tuple #[.int .i64 n, .iface t p])
theorem atoi_calls (s : ByteArray) {B : Nat} (w : World) (hv : LV B w) (hs : s.size ≤ 140737488351232) : Calls Tryz.prog 219 #[.string s] w fun e w' => AtoiEnd (Lib.atoiAll s.data.toList) e ∧ Ext w w' := by
  rcases h : Lib.atoiAll s.data.toList with n | _ | _
  · refine (Tryz.strconv_Atoi_ok s (by omega) n h w).mono ?_
    rintro e w' ⟨rfl, rfl | ⟨t, rfl⟩⟩
    · exact ⟨rfl, Ext.refl _⟩
    · exact ⟨rfl, ext_bytesWorld⟩
  · obtain ⟨tp, p, hvar⟩ := hv.errSyntax
    refine (Tryz.strconv_Atoi_syntax_var s (by omega) h tp p w hvar).mono ?_
    rintro e w' ⟨N, rfl, _, _, hx⟩
    exact ⟨⟨_, _, _, rfl⟩, hx⟩
  · obtain ⟨tp, p, hvar⟩ := hv.errRange
    refine (Tryz.strconv_Atoi_range_var s (by omega) h tp p w hvar).mono ?_
    rintro e w' ⟨N, rfl, _, _, hx⟩
    exact ⟨⟨_, _, _, rfl⟩, hx⟩

set_option maxHeartbeats 400000 in
theorem number_calls (s : ByteArray) {B : Nat} (w : World) (hv : LV B w) (hs : s.size ≤ 140737488351232) : Calls Tryz.prog 189 #[.string s] w fun e w' => e = .returned (.int .i64 (numberL s.data.toList)) ∧ Ext w w' := by
  have htl : (Lib.trimPrefix s.data.toList [45]).toArray.size ≤ 9223372036854775807 := by
    have : s.data.toList.length = s.size := (Lib.size_eq s).symm
    unfold Lib.trimPrefix
    split <;> simp <;> omega
  have HT := Lib.hid htl; clear htl
  rcases ha : Lib.atoiAll s.data.toList with n | _ | _
  · have HA := Lib.hid ha; clear ha
    go_enter Tryz.func189, Tryz.ntmps189
    go_wp2_with (first
      | (go_at_call 218; refine (trimPrefix_calls _ _ _).mono ?_; rintro e w' ⟨rfl, rfl⟩)
      | (go_at_call 180; refine (trim_calls _ _ _ HT.out (by decide) (by decide)).mono ?_; rintro e w1 ⟨rfl, hx1⟩)
      | (go_at_call 219; refine (atoi_calls _ _ (hv.ext hx1) hs).mono ?_; rintro e w2 ⟨he, hx2⟩; rw [HA.out] at he; obtain rfl := he)
      | (go_at_call 181; refine (cut_calls _ _).mono ?_; rintro e w' ⟨rfl, rfl⟩))
    all_goals (go_ret; refine ⟨ret_int ?_, by first | exact Ext.refl _ | assumption | exact Ext.trans ‹_› ‹_›⟩; have hA := HA.out; unfold numberL digitsL; rw [hA]; dsimp only; generalize cutI n = c at *; simp_all)
  · have HA := Lib.hid ha; clear ha
    go_enter Tryz.func189, Tryz.ntmps189
    go_wp2_with (first
      | (go_at_call 218; refine (trimPrefix_calls _ _ _).mono ?_; rintro e w' ⟨rfl, rfl⟩)
      | (go_at_call 180; refine (trim_calls _ _ _ HT.out (by decide) (by decide)).mono ?_; rintro e w1 ⟨rfl, hx1⟩)
      | (go_at_call 219; refine (atoi_calls _ _ (hv.ext hx1) hs).mono ?_; rintro e w2 ⟨he, hx2⟩; rw [HA.out] at he; obtain ⟨n, tp, p, rfl⟩ := he)
      | (go_at_call 181; refine (cut_calls _ _).mono ?_; rintro e w' ⟨rfl, rfl⟩))
    all_goals (go_ret; refine ⟨ret_int ?_, by first | exact Ext.refl _ | assumption | exact Ext.trans ‹_› ‹_›⟩; have hA := HA.out; simp_all [numberL, digitsL])
  · have HA := Lib.hid ha; clear ha
    go_enter Tryz.func189, Tryz.ntmps189
    go_wp2_with (first
      | (go_at_call 218; refine (trimPrefix_calls _ _ _).mono ?_; rintro e w' ⟨rfl, rfl⟩)
      | (go_at_call 180; refine (trim_calls _ _ _ HT.out (by decide) (by decide)).mono ?_; rintro e w1 ⟨rfl, hx1⟩)
      | (go_at_call 219; refine (atoi_calls _ _ (hv.ext hx1) hs).mono ?_; rintro e w2 ⟨he, hx2⟩; rw [HA.out] at he; obtain ⟨n, tp, p, rfl⟩ := he)
      | (go_at_call 181; refine (cut_calls _ _).mono ?_; rintro e w' ⟨rfl, rfl⟩))
    all_goals (go_ret; refine ⟨ret_int ?_, by first | exact Ext.refl _ | assumption | exact Ext.trans ‹_› ‹_›⟩; have hA := HA.out; simp_all [numberL, digitsL])
end Go.Proofs.YtngahblgicjoiaaGreatDoor
