/- SameLines: are two rows of rows the same? -/
import Derived.Test.YtngahblgicjoiaaGreatDoorSame
import Derived.Test.YtngahblgicjoiaaGreatDoorRowsLaw
namespace Go.Proofs.YtngahblgicjoiaaGreatDoor
open Go.RowKit

deriving instance DecidableEq for RowD

def sameRw (k1 v1 k2 v2 : ByteArray) : Bool := decide ((⟨k1, v1⟩ : RowD) = ⟨k2, v2⟩)
theorem neq_line (k1 v1 k2 v2 : ByteArray) (w : World) :
    (binOp .neq 73 (.agg #[.string k1, .string v1]) (.agg #[.string k2, .string v2])).run Tryz.prog w = .ok (.bool (!sameRw k1 v1 k2 v2)) w := by
  unfold sameRw
  have hS : Tryz.prog.underlying 73 = some (.struct (Tryz.prog.fieldsOf 73)) := by kernel_rfl
  have hp : Tryz.prog.stoodInHeld 73 = false := by kernel_rfl
  have u9 := Tryz.underlying9
  rw [run_neq_struct, show (10000 : Nat) = 9999 + 1 from rfl, run_equalIn_agg w 9999 73 _ _ hS hp]
  simp only [Program.fieldsOf, Tryz.underlying73]
  go_simp
  by_cases h1 : k1 = k2 <;> by_cases h3 : v1 = v2 <;> simp [h1, h3, toList_iff]

set_option maxRecDepth 100000 in
set_option maxHeartbeats 800000 in
theorem sameLines_calls (l m : List RowD) (ao bo : Option Addr) (cap cap' : Nat) (w : World) (hl : l.length ≤ 1000000) (hr : Rows 2 encRw w.heap.size w ao l) (hq : Rows 2 encRw w.heap.size w bo m) :
    Calls Tryz.prog 21 #[.slice ao l.length cap, .slice bo m.length cap'] w fun e w' => e = .returned (.bool (decide (l = m))) ∧ Ext w w' := by
  have HR := Lib.hid hr; have HQ := Lib.hid hq
  clear hr hq
  by_cases hlen : l.length = m.length
  · have HL := Lib.hid hlen
    go_enter Tryz.func21, Tryz.ntmps21
    have hd : ((l.length : Int) != (m.length : Int)) = false := by simp [hlen]
    have hneq := neq_line
    clear hlen
    go_wp2_with fail
    go_loopw [5] (fun i wr => ∃ (k : Nat), k ≤ l.length ∧ i = .int .i64 k ∧ l.take k = m.take k ∧ Ext w wr) (fun i _ => l.length - (intOf i).toNat)
    case atStart => exact ⟨0, by omega, rfl, by simp, Below.refl _ _⟩
    case round =>
      obtain ⟨k, hk, rfl, ha, hx⟩ := hrel
      have K1 := Lib.hid ha; have K2 := Lib.hid hx
      clear ha hx
      by_cases hlt : k < l.length
      · have hlt' : k < m.length := by have := HL.out; omega
        obtain ⟨x, hx⟩ : ∃ x, l[k]? = some x := ⟨_, List.getElem?_eq_getElem hlt⟩
        obtain ⟨y, hy⟩ : ∃ y, m[k]? = some y := ⟨_, List.getElem?_eq_getElem hlt'⟩
        obtain ⟨b, off, rfl, hb, hcell⟩ := HR.out (by intro e; rw [e] at hlt; simp at hlt)
        obtain ⟨b', off', rfl, hb', hcell'⟩ := HQ.out (by intro e; rw [e] at hlt'; simp at hlt')
        have hcx := hcell k x hx; have hcy := hcell' k y hy
        have hmove : ∀ j, wr.cell? ⟨b, j, none⟩ = w.cell? ⟨b, j, none⟩ := fun j => K2.out.cell (p := ⟨b, j, none⟩) hb
        have hmove' : ∀ j, wr.cell? ⟨b', j, none⟩ = w.cell? ⟨b', j, none⟩ := fun j => K2.out.cell (p := ⟨b', j, none⟩) hb'
        have TK := Lib.hid (show l.take (k + 1) = l.take k ++ [x] by rw [List.take_add_one, hx]; rfl)
        have TM := Lib.hid (show m.take (k + 1) = m.take k ++ [y] by rw [List.take_add_one, hy]; rfl)
        have HX := Lib.hid hx; have HY := Lib.hid hy
        obtain ⟨k1, v1⟩ := x; obtain ⟨k2, v2⟩ := y
        have d0 := (hmove _).trans (hcx 0 _ rfl); have d1 := (hmove _).trans (hcx 1 _ rfl)
        have c0 := (hmove' _).trans (hcy 0 _ rfl); have c1 := (hmove' _).trans (hcy 1 _ rfl)
        simp only [Nat.add_zero] at d0 c0
        have hi0 : (0 : Int) ≤ (k : Int) := by omega
        have hi1 : (k : Int) < (l.length : Int) := by omega
        have hi2 : (k : Int) < (m.length : Int) := by omega
        clear hx hy hcell hcell' hcx hcy hmove hmove'
        by_cases heq : (⟨k1, v1⟩ : RowD) = ⟨k2, v2⟩
        · have he : sameRw k1 v1 k2 v2 = true := decide_eq_true heq
          have E := Lib.hid heq; clear heq
          go_wp2_with fail
          go_quiet (fail)
          go_wp2_with fail
          go_roundw
          case rel => exact ⟨k + 1, by omega, by go_num, by rw [TK.out, TM.out, K1.out, E.out], (Ext.drewN K2.out _)⟩
          case measure => simp [intOf]; omega
        · have he : sameRw k1 v1 k2 v2 = false := decide_eq_false heq
          have E := Lib.hid heq; clear heq
          go_wp2_with fail
          go_quiet (fail)
          go_wp2_with fail
          go_ret
          refine ⟨ret_bool (Eq.symm (decide_eq_false fun e => ?_)), (Ext.drewN K2.out _)⟩
          have h1 := HX.out; have h2 := HY.out
          rw [e, h2] at h1
          exact E.out (Option.some.inj h1).symm
      · have hall : l = m := by
          have := K1.out
          rwa [List.take_of_length_le (by omega), List.take_of_length_le (by have := HL.out; omega)] at this
        have HA := Lib.hid hall; clear hall
        go_wp2_with fail
        go_ret
        exact ⟨ret_bool (by simp [HA.out]), K2.out⟩
  · go_enter Tryz.func21, Tryz.ntmps21
    have hd : ((l.length : Int) != (m.length : Int)) = true := by simp; omega
    go_wp2_with fail
    go_ret
    exact ⟨ret_bool (Eq.symm (decide_eq_false fun e => hlen (by rw [e]))), Below.refl _ _⟩
end Go.Proofs.YtngahblgicjoiaaGreatDoor
