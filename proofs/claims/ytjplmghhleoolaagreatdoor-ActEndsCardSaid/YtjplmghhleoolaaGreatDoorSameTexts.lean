/- SameTexts: are two rows of texts the same? -/
import Derived.Test.YtjplmghhleoolaaGreatDoorKeys
namespace Go.Proofs.YtjplmghhleoolaaGreatDoor
open Go.RowKit

set_option maxRecDepth 100000 in
set_option maxHeartbeats 800000 in
theorem sameTexts_calls (l m : List Txt) (ao bo : Option Addr) (cap cap' : Nat) (w : World) (hl : l.length ≤ 1000000) (hr : Rows 1 encT w.heap.size w ao l) (hq : Rows 1 encT w.heap.size w bo m) :
    Calls Tryz.prog 18 #[.slice ao l.length cap, .slice bo m.length cap'] w fun e w' => e = .returned (.bool (decide (l = m))) ∧ Ext w w' := by
  have HR := Lib.hid hr; have HQ := Lib.hid hq
  clear hr hq
  by_cases hlen : l.length = m.length
  · have HL := Lib.hid hlen
    go_enter Tryz.func18, Tryz.ntmps18
    have hd : ((l.length : Int) != (m.length : Int)) = false := by simp [hlen]
    clear hlen
    go_wp2_with fail
    go_loopw [5] (fun i wr => ∃ (k : Nat), k ≤ l.length ∧ i = .int .i64 k ∧ l.take k = m.take k ∧ Ext w wr) (fun i _ => l.length - (intOf i).toNat)
    case atStart => exact ⟨0, by omega, rfl, by simp, Below.refl _ _⟩
    case round =>
      obtain ⟨k, hk, rfl, ha, hx⟩ := hrel
      have K1 := Lib.hid ha; have K2 := Lib.hid hx
      clear ha hx
      by_cases hlt : k < l.length
      · have hlt' : k < m.length := by have := HL.out; omega
        obtain ⟨x, hx⟩ : ∃ x, l[k]? = some x := ⟨_, List.getElem?_eq_getElem hlt⟩
        obtain ⟨y, hy⟩ : ∃ y, m[k]? = some y := ⟨_, List.getElem?_eq_getElem hlt'⟩
        obtain ⟨b, off, rfl, hb, hcell⟩ := HR.out (by intro e; rw [e] at hlt; simp at hlt)
        obtain ⟨b', off', rfl, hb', hcell'⟩ := HQ.out (by intro e; rw [e] at hlt'; simp at hlt')
        have hcx := hcell k x hx 0 _ rfl; have hcy := hcell' k y hy 0 _ rfl
        rw [show off + k * 1 + 0 = off + k from by omega] at hcx
        rw [show off' + k * 1 + 0 = off' + k from by omega] at hcy
        have d0 : wr.cell? ⟨b, off + k, none⟩ = some (.string ⟨x.toArray⟩) := (K2.out.cell (p := ⟨b, off + k, none⟩) hb).trans hcx
        have c0 : wr.cell? ⟨b', off' + k, none⟩ = some (.string ⟨y.toArray⟩) := (K2.out.cell (p := ⟨b', off' + k, none⟩) hb').trans hcy
        have TK := Lib.hid (show l.take (k + 1) = l.take k ++ [x] by rw [List.take_add_one, hx]; rfl)
        have TM := Lib.hid (show m.take (k + 1) = m.take k ++ [y] by rw [List.take_add_one, hy]; rfl)
        have HX := Lib.hid hx; have HY := Lib.hid hy
        have hi0 : (0 : Int) ≤ (k : Int) := by omega
        have hi1 : (k : Int) < (l.length : Int) := by omega
        have hi2 : (k : Int) < (m.length : Int) := by omega
        clear hx hy hcell hcell' hcx hcy
        by_cases heq : x = y
        · have he : (x == y) = true := by simp [heq]
          have he2 : (x != y) = false := by simp [heq]
          have he3 : decide (x = y) = true := by simp [heq]
          have E := Lib.hid heq; clear heq
          go_wp2_with fail
          go_quiet (fail)
          go_wp2_with fail
          go_roundw
          case rel => exact ⟨k + 1, by omega, by go_num, by rw [TK.out, TM.out, K1.out, E.out], (Ext.drewN K2.out _)⟩
          case measure => simp [intOf]; omega
        · have he : (x == y) = false := by simp [heq]
          have he2 : (x != y) = true := by simp [heq]
          have he3 : decide (x = y) = false := by simp [heq]
          have E := Lib.hid heq; clear heq
          go_wp2_with fail
          go_quiet (fail)
          go_wp2_with fail
          go_ret
          refine ⟨ret_bool (Eq.symm (decide_eq_false fun e => ?_)), (Ext.drewN K2.out _)⟩
          have h1 := HX.out; have h2 := HY.out
          rw [e, h2] at h1
          exact E.out (Option.some.inj h1).symm
      · have hall : l = m := by
          have := K1.out
          rwa [List.take_of_length_le (by omega), List.take_of_length_le (by have := HL.out; omega)] at this
        have HA := Lib.hid hall; clear hall
        go_wp2_with fail
        go_ret
        exact ⟨ret_bool (by simp [HA.out]), K2.out⟩
  · go_enter Tryz.func18, Tryz.ntmps18
    have hd : ((l.length : Int) != (m.length : Int)) = true := by simp; omega
    go_wp2_with fail
    go_ret
    exact ⟨ret_bool (Eq.symm (decide_eq_false fun e => hlen (by rw [e]))), Below.refl _ _⟩
end Go.Proofs.YtjplmghhleoolaaGreatDoor
