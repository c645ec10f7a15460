/- SameBytes: of the same bytes. -/
import Derived.Test.YtdmejbjpbjcfbaaGreatDoorWire
namespace Go.Proofs.YtdmejbjpbjcfbaaGreatDoor
open Go.RowKit

set_option maxRecDepth 100000 in
set_option maxHeartbeats 800000 in
theorem sameBytes_calls (l : List UInt8) (ao bo : Option Addr) (cap cap' : Nat) (w : World) (hl : l.length ≤ 1000000000000000) (hr : Rows 1 encU8 w.heap.size w ao l) (hq : Rows 1 encU8 w.heap.size w bo l) :
    Calls Tryz.prog 24 #[.slice ao l.length cap, .slice bo l.length cap'] w fun e w' => e = .returned (.bool true) ∧ Ext w w' := by
  have HR := Lib.hid hr; have HQ := Lib.hid hq
  clear hr hq
  go_enter Tryz.func24, Tryz.ntmps24
  have hd : ((l.length : Int) != (l.length : Int)) = false := by simp
  go_wp2_with fail
  go_loopw [5] (fun i wr => ∃ (k : Nat), k ≤ l.length ∧ i = .int .i64 k ∧ Ext w wr) (fun i _ => l.length - (intOf i).toNat)
  case atStart => exact ⟨0, by omega, rfl, Below.refl _ _⟩
  case round =>
    obtain ⟨k, hk, rfl, hx⟩ := hrel
    have K2 := Lib.hid hx
    clear hx
    by_cases hlt : k < l.length
    · obtain ⟨x, hx⟩ : ∃ x, l[k]? = some x := ⟨_, List.getElem?_eq_getElem hlt⟩
      obtain ⟨b, off, rfl, hb, hcell⟩ := HR.out (by intro e; rw [e] at hlt; simp at hlt)
      obtain ⟨b', off', rfl, hb', hcell'⟩ := HQ.out (by intro e; rw [e] at hlt; simp at hlt)
      have hcx := hcell k x hx 0 _ rfl; have hcy := hcell' k x hx 0 _ rfl
      rw [show off + k * 1 + 0 = off + k from by omega] at hcx
      rw [show off' + k * 1 + 0 = off' + k from by omega] at hcy
      have d0 : wr.cell? ⟨b, off + k, none⟩ = some (.int .u8 (x.toNat : Int)) := (K2.out.cell (p := ⟨b, off + k, none⟩) hb).trans hcx
      have c0 : wr.cell? ⟨b', off' + k, none⟩ = some (.int .u8 (x.toNat : Int)) := (K2.out.cell (p := ⟨b', off' + k, none⟩) hb').trans hcy
      have hi0 : (0 : Int) ≤ (k : Int) := by omega
      have hi1 : (k : Int) < (l.length : Int) := by omega
      clear hx hcell hcell' hcx hcy
      generalize x.toNat = y at d0 c0
      have he : ((y : Int) == (y : Int)) = true := by simp
      have he2 : ((y : Int) != (y : Int)) = false := by simp
      go_wp2_with fail
      go_quiet (fail)
      go_wp2_with fail
      go_roundw
      case rel => exact ⟨k + 1, by omega, by go_num, (Ext.drewN K2.out _)⟩
      case measure => simp [intOf]; omega
    · go_wp2_with fail
      go_ret
      exact ⟨rfl, K2.out⟩
end Go.Proofs.YtdmejbjpbjcfbaaGreatDoor
