/- ActValues: the walk. -/
import Derived.Test.YtjplmghhleoolaaGreatDoorAwake
import Derived.Test.YtjplmghhleoolaaGreatDoorRefStr
import Derived.Test.YtjplmghhleoolaaGreatDoorNumLaw
namespace Go.Proofs.YtjplmghhleoolaaGreatDoor
open Go.RowKit

theorem values_calls {B : Nat} (hR : RightOne) (n : Int) (s : ByteArray) (w : World) (hs : s.size ≤ 140737488351232) (hv : LV B w) (hB : B ≤ w.heap.size) :
    Calls Tryz.prog 27 #[.int .i64 n, .string s] w fun e w' => e = .returned (.bool true) ∧ Ext w w' := by
  have HV := Lib.hid hv; have HF := Lib.hid hR
  clear hv hR
  by_cases h60 : s.size ≤ 60
  · have g60 : decide (60 < (s.size : Int)) = false := by simp; omega
    go_enter Tryz.func27, Tryz.ntmps27
    go_wp2_with fail
    refine (awake_calls HF.out w HV.out hB).mono ?_
    rintro e w1 ⟨rfl, hx⟩; have H1 := Lib.hid hx; clear hx
    go_wp2_with fail
    refine (value_calls n _ (HV.out.ext H1.out)).mono ?_
    rintro e w2 ⟨rfl, hx⟩; have H2 := Lib.hid (Ext.trans H1.out hx); clear hx
    go_wp2_with fail
    refine (refValue_calls n _).mono ?_
    rintro e w3 ⟨rfl, hx⟩; have H3 := Lib.hid (Ext.trans H2.out hx); clear hx
    go_wp2_with fail
    refine (number_calls s _ (HV.out.ext H3.out) hs).mono ?_
    rintro e w4 ⟨rfl, hx⟩; have H4 := Lib.hid (Ext.trans H3.out hx); clear hx
    go_wp2_with fail
    refine (refNumber_calls s _ hs).mono ?_
    rintro e w5 ⟨rfl, rfl⟩
    go_wp2_with fail
    go_ret
    exact ⟨ret_bool (by rw [number_eq]; simp), H4.out⟩
  · have g60 : decide (60 < (s.size : Int)) = true := by simp; omega
    go_enter Tryz.func27, Tryz.ntmps27
    go_wp2_with fail
    refine (awake_calls HF.out w HV.out hB).mono ?_
    rintro e w1 ⟨rfl, hx⟩; have H1 := Lib.hid hx; clear hx
    go_wp2_with fail
    go_ret
    exact ⟨ret_bool rfl, H1.out⟩
end Go.Proofs.YtjplmghhleoolaaGreatDoor
