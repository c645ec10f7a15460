/- clerk: ClerkNil. -/
import Derived.Test.YtdjjpnobfopplaaGreatDoorClkAw
import Derived.Test.YtdjjpnobfopplaaGreatDoorEwG
import Derived.Test.YtdjjpnobfopplaaGreatDoorClkGreat
import Derived.Deep.CutRange
import Derived.Deep.DeepCutAuto
namespace Go.Proofs.YtdjjpnobfopplaaGreatDoor
open Go.RowKit

namespace Ev
def clkT : Tr AV := (Tr.put (some (.ptr 0 0)) 24 .leaf 1).getD .leaf
def clkC : Tr AV := (Tr.putAll ((List.range 16).map AV.sym) .leaf 0).getD .leaf
def clkH : Tr Blk := (Tr.put (some (.cells 32 16 false true false clkC)) 24 .leaf 0).getD .leaf
end Ev

set_option maxRecDepth 100000 in
set_option maxHeartbeats 3200000 in
theorem clerkNil_calls (z : CallZ) (v0 v1 v2 v3 v4 v5 v6 v7 v8 v9 v10 v11 v12 v13 v14 v15 : Value) (hz : encCall z = [v0, v1, v2, v3, v4, v5, v6, v7, v8, v9, v10, v11, v12, v13, v14, v15]) (w : World) (ha : Rows 4 encAct w.heap.size w z.ao z.acts) (hr : Rows 3 encRd w.heap.size w z.ro z.reads) (hs : z.small) :
    Calls Tryz.prog 3 #[.agg #[v0, v1, v2, v3, v4, v5, v6, v7, v8, v9, v10, v11, v12, v13, v14, v15]] w fun e w' => e = .returned (.bool true) ∧ Ext w w' := by
  have HA := Lib.hid ha; have HR := Lib.hid hr; have HS := Lib.hid hs; have HZ := Lib.hid hz
  clear ha hr hs hz
  go_enter Tryz.func3, Tryz.ntmps3
  go_wp2_with fail
  obtain ⟨w0, hw0⟩ : ∃ w0, w0 = w.alloc (Obj.cells #[v0, v1, v2, v3, v4, v5, v6, v7, v8, v9, v10, v11, v12, v13, v14, v15] 32) := ⟨_, rfl⟩
  rw [← hw0]
  have hB : Blk w0 w.heap.size [v0, v1, v2, v3, v4, v5, v6, v7, v8, v9, v10, v11, v12, v13, v14, v15] 32 := by rw [hw0]; exact Blk.new w [v0, v1, v2, v3, v4, v5, v6, v7, v8, v9, v10, v11, v12, v13, v14, v15] 32
  have hx0 : Ext w w0 := by rw [hw0]; exact (Below.refl _ w).alloc (Nat.le_refl _) _
  have hb0 := hB.lt
  refine (awake_calls _).mono ?_
  rintro e w1 ⟨rfl, hx1⟩
  have hB1 := hB.ext' hx1
  have hX1 : Ext w w1 := Ext.trans hx0 hx1
  have X1 := Lib.hid hX1; have B1 := Lib.hid hB1.lt; have C1 := Lib.hid hB1
  have c0 : w1.cell? ⟨w.heap.size, 0, none⟩ = some v0 := hB1.cell 0
  have c1 : w1.cell? ⟨w.heap.size, 1, none⟩ = some v1 := hB1.cell 1
  have c2 : w1.cell? ⟨w.heap.size, 2, none⟩ = some v2 := hB1.cell 2
  have c3 : w1.cell? ⟨w.heap.size, 3, none⟩ = some v3 := hB1.cell 3
  have c4 : w1.cell? ⟨w.heap.size, 4, none⟩ = some v4 := hB1.cell 4
  have c5 : w1.cell? ⟨w.heap.size, 5, none⟩ = some v5 := hB1.cell 5
  have c6 : w1.cell? ⟨w.heap.size, 6, none⟩ = some v6 := hB1.cell 6
  have c7 : w1.cell? ⟨w.heap.size, 7, none⟩ = some v7 := hB1.cell 7
  have c8 : w1.cell? ⟨w.heap.size, 8, none⟩ = some v8 := hB1.cell 8
  have c9 : w1.cell? ⟨w.heap.size, 9, none⟩ = some v9 := hB1.cell 9
  have c10 : w1.cell? ⟨w.heap.size, 10, none⟩ = some v10 := hB1.cell 10
  have c11 : w1.cell? ⟨w.heap.size, 11, none⟩ = some v11 := hB1.cell 11
  have c12 : w1.cell? ⟨w.heap.size, 12, none⟩ = some v12 := hB1.cell 12
  have c13 : w1.cell? ⟨w.heap.size, 13, none⟩ = some v13 := hB1.cell 13
  have c14 : w1.cell? ⟨w.heap.size, 14, none⟩ = some v14 := hB1.cell 14
  have c15 : w1.cell? ⟨w.heap.size, 15, none⟩ = some v15 := hB1.cell 15
  clear hw0 hx0 hx1 hX1 hb0 hB hB1
  go_wp2_with fail
  obtain ⟨w2, hw2⟩ : ∃ w2, w2 = w1.alloc (Obj.cells #[v0, v1, v2, v3, v4, v5, v6, v7, v8, v9, v10, v11, v12, v13, v14, v15] 32) := ⟨_, rfl⟩
  rw [← hw2]
  have hB2 : Blk w2 w1.heap.size [v0, v1, v2, v3, v4, v5, v6, v7, v8, v9, v10, v11, v12, v13, v14, v15] 32 := by rw [hw2]; exact Blk.new w1 [v0, v1, v2, v3, v4, v5, v6, v7, v8, v9, v10, v11, v12, v13, v14, v15] 32
  have hx2 : Ext w1 w2 := by rw [hw2]; exact (Below.refl _ w1).alloc (Nat.le_refl _) _
  have hX2 := Ext.trans X1.out hx2
  refine (great26_calls z w1.heap.size w2 hB2.lt (fun j v h => by rw [HZ.out] at h; rw [hB2.cell j]; exact h) ((HA.out.ext hX2).mono hX2.size) ((HR.out.ext hX2).mono hX2.size) HS.out).mono ?_
  rintro e w3 ⟨v, rfl, hx3⟩
  have X3 := Lib.hid (Ext.trans hX2 hx3)
  have C3 := Lib.hid ((C1.out.ext' hx2).ext' hx3)
  clear hw2 hB2 hx2 hX2 hx3 c0 c1 c2 c3 c4 c5 c6 c7 c8 c9 c10 c11 c12 c13 c14 c15
  cases v with
  | true =>
    go_wp2_with fail
    go_ret
    exact ⟨rfl, X3.out⟩
  | false =>
    go_upto_if 16 with fail
    refine wp_cond_false rfl ?_
    refine wp_skip ?_
    rename_i hK
    refine hK _ _ ?_
    have hall : ∀ v ∈ [v0, v1, v2, v3, v4, v5, v6, v7, v8, v9, v10, v11, v12, v13, v14, v15], v.oneCell' = true ∧ v ≠ .nilIface := by
      rw [← HZ.out]
      intro v hv
      simp only [encCall, List.mem_cons, List.not_mem_nil, or_false] at hv
      rcases hv with rfl | rfl | rfl | rfl | rfl | rfl | rfl | rfl | rfl | rfl | rfl | rfl | rfl | rfl | rfl | rfl <;> exact ⟨rfl, by simp⟩
    obtain ⟨σ, hσ⟩ : ∃ σ : Nat → Value, σ = fun k => [v0, v1, v2, v3, v4, v5, v6, v7, v8, v9, v10, v11, v12, v13, v14, v15].getD k (.bool true) := ⟨_, rfl⟩
    have hok : Ev.Okσ σ := by
      have key : ∀ k, (σ k).oneCell' = true ∧ σ k ≠ .nilIface := fun k => by
        rw [hσ]
        simp only [List.getD_eq_getElem?_getD]
        cases hk : [v0, v1, v2, v3, v4, v5, v6, v7, v8, v9, v10, v11, v12, v13, v14, v15][k]? with
        | none => exact ⟨rfl, by simp⟩
        | some v => exact hall v (List.mem_of_getElem? hk)
      exact ⟨fun k => (key k).1, fun k => (key k).2⟩
    have hat : ∀ i, i < 16 → [v0, v1, v2, v3, v4, v5, v6, v7, v8, v9, v10, v11, v12, v13, v14, v15][i]? = some (σ i) := fun i hi => by
      rw [hσ]
      have : i < [v0, v1, v2, v3, v4, v5, v6, v7, v8, v9, v10, v11, v12, v13, v14, v15].length := hi
      simp only [List.getD_eq_getElem?_getD, List.getElem?_eq_getElem this, Option.getD_some]
    refine Ev.code_ret σ hok (by kernel_rfl) (n := 1000) (nt := 96) (r := 2) (T := Ev.clkT) (S := ⟨Ev.clkH, 1⟩) (φ := fun b => if b = 0 then some (w.heap.size, 16) else none) (by kernel_rfl)
      (Ev.W_row σ (cs := Ev.clkC) C3.out rfl hat (by kernel_rfl) (by kernel_rfl)) (Ev.TR_one σ (x := .ptr 0 0) (t := 1) (by kernel_rfl) ?_) (Nat.le_of_ble_eq_true (by kernel_rfl)) rfl ?_ ?_
    · simp only [Ev.V]
      exact ⟨w.heap.size, 16, rfl, rfl⟩
    · intro b blk hb
      rw [Ev.Tr.get_put _ _ _ _ _ (show Ev.Tr.put (some (.cells 32 16 false true false Ev.clkC)) 24 .leaf 0 = some Ev.clkH by kernel_rfl)] at hb
      split at hb
      · injection hb with hb; subst hb; rfl
      · cases hb
    · intro a' w' hb hv _ hd
      refine bodyPost_ret (results_tmp rfl _ _ _) hd ?_
      exact ⟨by rw [hv], Ext.trans X3.out hb⟩
end Go.Proofs.YtdjjpnobfopplaaGreatDoor
