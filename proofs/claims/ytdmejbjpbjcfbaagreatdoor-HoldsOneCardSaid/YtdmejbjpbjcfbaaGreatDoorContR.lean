/- slices.ContainsFunc at watershed/api.Read, with watershed/holds.right$1. -/
import Derived.Test.YtdmejbjpbjcfbaaGreatDoorReadH
namespace Go.Proofs.YtdmejbjpbjcfbaaGreatDoor
open Go.RowKit

set_option maxRecDepth 100000 in
theorem indexR_calls (q : Nat → Rd → Bool) (bx : Nat) (l : List Rd) (ao : Option Addr) (cap : Nat) (w : World) (hl : l.length ≤ 1000000) (hr : Rows 3 encRd w.heap.size w ao l)
    (hq : ∀ i x, l[i]? = some x → ∀ W, Ext w W → Calls Tryz.prog 126 #[.agg (encRd x).toArray, .pointer (some ⟨bx, 0, none⟩)] W fun e w' => e = .returned (.bool (q i x)) ∧ Ext W w') :
    Calls Tryz.prog 157 #[.slice ao l.length cap, .func (.func 126) #[] #[.pointer (some ⟨bx, 0, none⟩)]] w fun e w' => ∃ k : Int, e = .returned (.int .i64 k) ∧ (k < 0 ↔ ∀ i x, l[i]? = some x → q i x = false) ∧ Ext w w' := by
  have HR := Lib.hid hr; have HF := Lib.hid hq
  clear hr hq
  go_enter Tryz.func157, Tryz.ntmps157
  go_wp2_with fail
  go_loopw [8] (fun i wr => ∃ (k : Nat), k ≤ l.length ∧ i = .int .i64 k ∧ (∀ i x, i < k → l[i]? = some x → q i x = false) ∧ Ext w wr) (fun i _ => l.length - (intOf i).toNat)
  case atStart => exact ⟨0, by omega, rfl, fun i x h => by omega, Below.refl _ _⟩
  case round =>
    obtain ⟨k, hk, rfl, ha, hx⟩ := hrel
    have K1 := Lib.hid ha; have K2 := Lib.hid hx
    clear ha hx
    by_cases hlt : k < l.length
    · obtain ⟨x, hx⟩ : ∃ x, l[k]? = some x := ⟨_, List.getElem?_eq_getElem hlt⟩
      obtain ⟨b, off, rfl, hb, hcell⟩ := HR.out (by intro e; rw [e] at hlt; simp at hlt)
      have hcx := hcell k x hx
      have hmove : ∀ j, wr.cell? ⟨b, j, none⟩ = w.cell? ⟨b, j, none⟩ := fun j => K2.out.cell (p := ⟨b, j, none⟩) hb
      have HX := Lib.hid hx
      have hcc := HF.out k x hx
      obtain ⟨rk, is, rv⟩ := x
      have d0 := (hmove _).trans (hcx 0 _ rfl); have d1 := (hmove _).trans (hcx 1 _ rfl); have d2 := (hmove _).trans (hcx 2 _ rfl)
      simp only [Nat.add_zero] at d0
      have CC := Lib.hid hcc
      have i0 : (0 : Int) ≤ (k : Int) := by omega
      have i1 : (k : Int) < (l.length : Int) := by omega
      clear hcell hcx hmove hx hcc
      cases hrb : q k ⟨rk, is, rv⟩
      · have RB := Lib.hid hrb; clear hrb
        go_wp2_with fail
        refine (CC.out _ K2.out).mono ?_
        rw [RB.out]
        rintro e w' ⟨rfl, hx2⟩
        have X2 := Lib.hid hx2; clear hx2
        go_wp2_with fail
        go_roundw
        case rel =>
          refine ⟨k + 1, by omega, by go_num, fun i x hi hx => ?_, Ext.trans K2.out X2.out⟩
          rcases Nat.lt_or_ge i k with h | h
          · exact K1.out i x h hx
          · obtain rfl : i = k := by omega
            rw [HX.out] at hx
            rw [← Option.some.inj hx]; exact RB.out
        case measure => simp [intOf]; omega
      · have RB := Lib.hid hrb; clear hrb
        go_wp2_with fail
        refine (CC.out _ K2.out).mono ?_
        rw [RB.out]
        rintro e w' ⟨rfl, hx2⟩
        have X2 := Lib.hid hx2; clear hx2
        go_wp2_with fail
        go_ret
        exact ⟨k, ret_int (by omega), ⟨fun h => absurd h (by omega), fun h => by have := h k _ HX.out; rw [RB.out] at this; cases this⟩, Ext.trans K2.out X2.out⟩
    · go_wp2_with fail
      go_ret
      exact ⟨-1, ret_int (by omega), ⟨fun _ i x hx => K1.out i x (by have := (List.getElem?_eq_some_iff.1 hx).1; omega) hx, fun _ => by omega⟩, K2.out⟩

theorem containsR_calls (q : Nat → Rd → Bool) (bx : Nat) (l : List Rd) (ao : Option Addr) (cap : Nat) (w : World) (hl : l.length ≤ 1000000) (hr : Rows 3 encRd w.heap.size w ao l)
    (hq : ∀ i x, l[i]? = some x → ∀ W, Ext w W → Calls Tryz.prog 126 #[.agg (encRd x).toArray, .pointer (some ⟨bx, 0, none⟩)] W fun e w' => e = .returned (.bool (q i x)) ∧ Ext W w') :
    Calls Tryz.prog 125 #[.slice ao l.length cap, .func (.func 126) #[] #[.pointer (some ⟨bx, 0, none⟩)]] w fun e w' => ∃ b : Bool, e = .returned (.bool b) ∧ (b = false ↔ ∀ i x, l[i]? = some x → q i x = false) ∧ Ext w w' := by
  have HR := Lib.hid hr; have HF := Lib.hid hq
  clear hr hq
  go_enter Tryz.func125, Tryz.ntmps125
  go_wp2_with fail
  refine (indexR_calls q bx l ao cap _ hl HR.out HF.out).mono ?_
  rintro e w' ⟨k, rfl, hk, hx⟩
  have X2 := Lib.hid hx; have K2 := Lib.hid hk; clear hx hk
  go_wp2_with fail
  go_ret
  exact ⟨decide (0 ≤ k), ret_bool rfl, by rw [← K2.out]; simp, X2.out⟩
end Go.Proofs.YtdmejbjpbjcfbaaGreatDoor
