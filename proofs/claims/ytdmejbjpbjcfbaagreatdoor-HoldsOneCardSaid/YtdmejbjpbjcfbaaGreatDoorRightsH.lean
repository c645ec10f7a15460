/- holds.Right: are holds? -/
import Derived.Test.YtdmejbjpbjcfbaaGreatDoorRightH
import Derived.Test.YtdmejbjpbjcfbaaGreatDoorContH
namespace Go.Proofs.YtdmejbjpbjcfbaaGreatDoor
open Go.RowKit

set_option maxRecDepth 100000 in
theorem holdRight1_calls (v : HoldV) (d : HoldD) (no : Nat → Prop) (w : World) (hv : v.is w no d) (hok : d.ok) :
    Calls Tryz.prog 70 #[.agg (encHV v).toArray] w fun e w' => e = .returned (.bool (!holdB d)) ∧ Ext w w' := by
  have HX := Lib.hid (show Ext w (w.alloc (.cells (encHV v).toArray 35)) from (Below.refl _ w).alloc (Nat.le_refl _) _)
  have HC := Lib.hid (holdRight_calls v d no _ (hv.ext HX.out) hok)
  clear hv hok
  generalize holdB d = res at HC ⊢
  obtain ⟨key, cl, nm, xo, xn, xc, yo, yn, yc, put, value⟩ := v
  simp only [encHV] at HC HX ⊢
  go_enter Tryz.func70, Tryz.ntmps70
  go_wp2_with fail
  refine HC.out.mono ?_
  rintro e w' ⟨rfl, hx⟩
  have X2 := Lib.hid (Ext.trans HX.out hx)
  clear hx HC HX
  go_wp2_with fail
  go_ret
  exact ⟨ret_bool rfl, X2.out⟩

def holdsB (ds : List HoldD) : Bool := ds.all holdB
theorem holdsRight_calls (l : List HoldV) (ds : List HoldD) (no : Nat → Prop) (ao : Option Addr) (cap : Nat) (w : World) (hl : l.length ≤ 1000000) (hr : Rows 7 encHV w.heap.size w ao l) (hd : HoldsAre w no l ds) (hok : ∀ d ∈ ds, d.ok) :
    Calls Tryz.prog 25 #[.slice ao l.length cap] w fun e w' => e = .returned (.bool (holdsB ds)) ∧ Ext w w' := by
  have hq : ∀ (i : Nat) (x : HoldV), l[i]? = some x → ∀ W, Ext w W → Calls Tryz.prog 70 #[.agg (encHV x).toArray] W fun e w' => e = .returned (.bool (match ds[i]? with | some d => !holdB d | none => false)) ∧ Ext W w' := by
    intro i x hi W hW
    obtain ⟨d, hdi, hx⟩ := hd.at i x hi
    rw [hdi]
    exact holdRight1_calls x d no W (hx.ext hW) (hok d (List.mem_of_getElem? hdi))
  have hc := containsH_calls (fun i _ => match ds[i]? with | some d => !holdB d | none => false) l ao cap w hl hr hq
  have hres : ∀ b : Bool, (b = false ↔ ∀ (i : Nat) (x : HoldV), l[i]? = some x → (match ds[i]? with | some d => !holdB d | none => false) = false) → (!b) = holdsB ds := by
    intro b hb
    have hlen := hd.len
    have h2 : (b = false) ↔ holdsB ds = true := by
      rw [hb]
      unfold holdsB
      rw [List.all_eq_true]
      constructor
      · intro h d hdm
        obtain ⟨i, hi⟩ := List.getElem?_of_mem hdm
        have hil := (List.getElem?_eq_some_iff.1 hi).1
        have := h i l[i] (List.getElem?_eq_getElem (by omega))
        rw [hi] at this
        simpa using this
      · intro h i x hx
        cases hi : ds[i]? with
        | none => rfl
        | some d => simp [h d (List.mem_of_getElem? hi)]
    cases b <;> cases hh : holdsB ds <;> simp_all
  have HC := Lib.hid hc; have HRES := Lib.hid hres
  clear hc hq hr hd hok hres
  generalize holdsB ds = res at HRES ⊢
  go_enter Tryz.func25, Tryz.ntmps25
  go_wp2_with fail
  refine HC.out.mono ?_
  rintro e w' ⟨b, rfl, hb, hx⟩
  have X2 := Lib.hid hx; have HB := Lib.hid hb; clear hx hb
  go_wp2_with fail
  go_ret
  exact ⟨ret_bool (HRES.out b HB.out), X2.out⟩
end Go.Proofs.YtdmejbjpbjcfbaaGreatDoor
