/- machine: MachineNil. -/
import Derived.Test.YtedokmdoompidaaGreatDoorMchAw
import Derived.Test.YtedokmdoompidaaGreatDoorMem
import Derived.Deep.CutRange
import Derived.Deep.DeepCutAuto
namespace Go.Proofs.YtedokmdoompidaaGreatDoor
open Go.RowKit

namespace Ev
def mchT : Tr AV := (Tr.put (some (.sym 0)) 24 .leaf 0).getD .leaf
end Ev

set_option maxRecDepth 100000 in
set_option maxHeartbeats 3200000 in
theorem machineNil_calls (ao : Option Addr) (n cap : Nat) (w : World) :
    Calls Tryz.prog 3 #[.slice ao n cap] w fun e w' => e = .returned (.bool true) ∧ Ext w w' := by
  go_enter Tryz.func3, Tryz.ntmps3
  go_wp2_with fail
  refine (awake_calls _).mono ?_
  rintro e w1 ⟨rfl, hx1⟩
  have X1 := Lib.hid hx1
  clear hx1
  cases hn : decide ((20000 : Int) < (n : Int)) with
  | true =>
    go_wp2_with fail
    go_ret
    exact ⟨rfl, X1.out⟩
  | false =>
    go_upto_if 10 with fail
    refine wp_cond_false ?_ ?_
    · simp [Go.Act.eval]
    refine wp_skip ?_
    rename_i hK
    refine hK _ _ ?_
    obtain ⟨σ, hσ⟩ : ∃ σ : Nat → Value, σ = fun _ => .slice ao n cap := ⟨_, rfl⟩
    have hok : Ev.Okσ σ := by
      rw [hσ]
      exact ⟨fun k => rfl, fun k => by simp⟩
    refine Ev.code_ret σ hok (by kernel_rfl) (Ev.libHk_snd σ _) (n := 1000) (nt := 68) (r := 2) (T := Ev.mchT) (S := Ev.S0) (φ := Ev.noPhi) (by kernel_rfl)
      (Ev.W_none σ _) (Ev.TR_one σ (x := .sym 0) (t := 0) (by kernel_rfl) ?_) (Nat.le_of_ble_eq_true (by kernel_rfl)) rfl ?_ ?_
    · simp only [Ev.V, hσ]
      rfl
    · intro b blk hb
      cases hb
    · intro a' w' hb hv _ hd
      refine bodyPost_ret (results_tmp rfl _ _ _) hd ?_
      exact ⟨by rw [hv], Ext.trans X1.out hb⟩
end Go.Proofs.YtedokmdoompidaaGreatDoor
