/- slices.Clone at acts and reads; own: holds in memory of their own. -/
import Derived.Test.YtdmejbjpbjcfbaaGreatDoorHoldDefs
import Derived.Test.YtdmejbjpbjcfbaaGreatDoorAppend
import Derived.Test.YtdmejbjpbjcfbaaGreatDoorAppendStep
import Derived.Deep.RegionHeld3
namespace Go.Proofs.YtdmejbjpbjcfbaaGreatDoor
open Go.RowKit

theorem infoAct : (Tryz.prog.info? 98).map (fun i => (i.zero, i.size, i.bytes)) = some (some (.agg #[.int .u8 0, .string ⟨#[]⟩, .string ⟨#[]⟩, .int .i64 0]), 4, 48) := by kernel_rfl
theorem infoRd : (Tryz.prog.info? 100).map (fun i => (i.zero, i.size, i.bytes)) = some (some (.agg #[.string ⟨#[]⟩, .bool false, .string ⟨#[]⟩]), 3, 40) := by kernel_rfl
theorem one_act : ∀ (x : ActD), ∀ u ∈ encAct x, u.oneCell' = true := by
  intro x u hu
  simp only [encAct, List.mem_cons, List.not_mem_nil, or_false] at hu
  rcases hu with rfl | rfl | rfl | rfl <;> rfl
theorem one_rd : ∀ (x : Rd), ∀ u ∈ encRd x, u.oneCell' = true := by
  intro x u hu
  simp only [encRd, List.mem_cons, List.not_mem_nil, or_false] at hu
  rcases hu with rfl | rfl | rfl <;> rfl

set_option maxRecDepth 100000 in
theorem clone_acts_calls (l : List ActD) (ao : Option Addr) (cap : Nat) (w : World) (hl : l.length ≤ 1000000) (hr : Rows 4 encAct w.heap.size w ao l) :
    Calls Tryz.prog 108 #[.slice ao l.length cap] w fun e w' => ∃ v, e = .returned v ∧ w'.ownsRow 0 98 4 v l.length (l.flatMap encAct) ∧ (∀ j, v.ownBlock = some j → w.heap.size ≤ j) ∧ Ext w w' := by
  obtain ⟨i0, hi, hz0, hz1, hz2⟩ := info_parts infoAct
  have heq := fun W => Lib.run_eql_slice_nil (P := Tryz.prog) W 32 98 ao l.length cap 0 0 Tryz.underlying32
  have E1 : Hid (Ext w (w.alloc (.cells #[] 98))) := Lib.hid ((Below.refl _ w).alloc (Nat.le_refl _) _)
  cases ao with
  | none =>
    have hl0 : l = [] := by
      cases l with
      | nil => rfl
      | cons a l => obtain ⟨b, off, e, -⟩ := hr (by simp); cases e
    have HL0 := Lib.hid hl0
    clear hr hl0
    simp only [Option.isNone_none] at heq
    go_enter Tryz.func108, Tryz.ntmps108
    go_wp2_with fail
    go_ret
    exact ⟨_, rfl, by rw [HL0.out]; exact World.ownsRow_nil _ _ _ _, by simp [Value.ownBlock], Below.refl _ _⟩
  | some a =>
    have HR := Lib.hid hr
    clear hr
    simp only [Option.isNone_some] at heq
    go_enter Tryz.func108, Tryz.ntmps108
    go_wp2_with (at_builtin; refine wpList_append_rows (enc := encAct) (size := 4) (fun _ => rfl) one_act rfl (.tmp 5) (.tmp 6) 32 rfl 98 i0 _ 48 Tryz.underlying32 hi hz0 hz1 hz2 rfl (by decide) (.slice (some ⟨w.heap.size, 0, none⟩) 0 0) 0 [] rfl (World.ownsRow_made w #[] 0 (Nat.zero_le _) (Nat.zero_le _) rfl) (some a) l cap rfl ((HR.out.ext E1.out).mono E1.out.size) (by unfold maxLen; omega) (by omega) ?_; intro v1 w1 hown1 hbut1 hkept1; have O1 := Lib.hid hown1; have B1 := Lib.hid hbut1; have P1 := Lib.hid hkept1; clear hown1 hbut1 hkept1)
    go_ret
    refine ⟨v1, rfl, by have := O1.out; rwa [Nat.zero_add, List.nil_append] at this, fun j hj => ?_, ?_⟩
    · rcases P1.out j hj with e | e
      · simp [Value.ownBlock] at e; omega
      · have := E1.out.size; omega
    · exact ((Ext.but E1.out (fun _ => False)).trans B1.out (U := fun i => i = w.heap.size) (fun _ _ e => e.elim) (fun i _ e => by simp [Value.ownBlock] at e; exact e.symm)).ext (fun i hi e => by omega)

set_option maxRecDepth 100000 in
theorem clone_reads_calls (l : List Rd) (ao : Option Addr) (cap : Nat) (w : World) (hl : l.length ≤ 1000000) (hr : Rows 3 encRd w.heap.size w ao l) :
    Calls Tryz.prog 109 #[.slice ao l.length cap] w fun e w' => ∃ v, e = .returned v ∧ w'.ownsRow 0 100 3 v l.length (l.flatMap encRd) ∧ (∀ j, v.ownBlock = some j → w.heap.size ≤ j) ∧ Ext w w' := by
  obtain ⟨i0, hi, hz0, hz1, hz2⟩ := info_parts infoRd
  have heq := fun W => Lib.run_eql_slice_nil (P := Tryz.prog) W 33 100 ao l.length cap 0 0 Tryz.underlying33
  have E1 : Hid (Ext w (w.alloc (.cells #[] 100))) := Lib.hid ((Below.refl _ w).alloc (Nat.le_refl _) _)
  cases ao with
  | none =>
    have hl0 : l = [] := by
      cases l with
      | nil => rfl
      | cons a l => obtain ⟨b, off, e, -⟩ := hr (by simp); cases e
    have HL0 := Lib.hid hl0
    clear hr hl0
    simp only [Option.isNone_none] at heq
    go_enter Tryz.func109, Tryz.ntmps109
    go_wp2_with fail
    go_ret
    exact ⟨_, rfl, by rw [HL0.out]; exact World.ownsRow_nil _ _ _ _, by simp [Value.ownBlock], Below.refl _ _⟩
  | some a =>
    have HR := Lib.hid hr
    clear hr
    simp only [Option.isNone_some] at heq
    go_enter Tryz.func109, Tryz.ntmps109
    go_wp2_with (at_builtin; refine wpList_append_rows (enc := encRd) (size := 3) (fun _ => rfl) one_rd rfl (.tmp 5) (.tmp 6) 33 rfl 100 i0 _ 40 Tryz.underlying33 hi hz0 hz1 hz2 rfl (by decide) (.slice (some ⟨w.heap.size, 0, none⟩) 0 0) 0 [] rfl (World.ownsRow_made w #[] 0 (Nat.zero_le _) (Nat.zero_le _) rfl) (some a) l cap rfl ((HR.out.ext E1.out).mono E1.out.size) (by unfold maxLen; omega) (by omega) ?_; intro v1 w1 hown1 hbut1 hkept1; have O1 := Lib.hid hown1; have B1 := Lib.hid hbut1; have P1 := Lib.hid hkept1; clear hown1 hbut1 hkept1)
    go_ret
    refine ⟨v1, rfl, by have := O1.out; rwa [Nat.zero_add, List.nil_append] at this, fun j hj => ?_, ?_⟩
    · rcases P1.out j hj with e | e
      · simp [Value.ownBlock] at e; omega
      · have := E1.out.size; omega
    · exact ((Ext.but E1.out (fun _ => False)).trans B1.out (U := fun i => i = w.heap.size) (fun _ _ e => e.elim) (fun i _ e => by simp [Value.ownBlock] at e; exact e.symm)).ext (fun i hi e => by omega)

end Go.Proofs.YtdmejbjpbjcfbaaGreatDoor
