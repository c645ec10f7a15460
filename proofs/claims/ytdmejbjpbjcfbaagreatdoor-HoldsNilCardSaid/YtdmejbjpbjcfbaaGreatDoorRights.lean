/- act.Right: are all acts right? -/
import Derived.Test.YtdmejbjpbjcfbaaGreatDoorMem
import Derived.Test.YtdmejbjpbjcfbaaGreatDoorKeyDefs
namespace Go.Proofs.YtdmejbjpbjcfbaaGreatDoor
open Go.RowKit

/-- What one act's look is to answer. -/
def RightOne : Prop := ∀ (a : ActD) (w : World), a.ok → Calls Tryz.prog 160 #[.agg (encAct a).toArray] w fun e w' => e = .returned (.bool (rightB a)) ∧ Ext w w'

theorem right1_calls (hR : RightOne) (a : ActD) (w : World) (hok : a.ok) : Calls Tryz.prog 159 #[.agg (encAct a).toArray] w fun e w' => e = .returned (.bool (!rightB a)) ∧ Ext w w' := by
  obtain ⟨kd, key, val, num⟩ := a
  have HK := Lib.hid hok; clear hok
  unfold encAct
  go_enter Tryz.func159, Tryz.ntmps159
  go_wp2_with fail
  refine (hR ⟨kd, key, val, num⟩ _ HK.out).mono ?_
  rintro e w' ⟨rfl, hx⟩
  have H1 := Lib.hid hx; clear hx
  go_wp2_with fail
  go_ret
  exact ⟨ret_bool rfl, Ext.trans ((Below.refl _ w).alloc (Nat.le_refl _) _) H1.out⟩

set_option maxRecDepth 100000 in
theorem indexFunc_calls (hR : RightOne) (l : List ActD) (ao : Option Addr) (cap : Nat) (w : World) (hl : l.length ≤ 1000000) (hok : ∀ a ∈ l, a.ok) (hr : Rows 4 encAct w.heap.size w ao l) :
    Calls Tryz.prog 188 #[.slice ao l.length cap, .func (.func 159) #[] #[]] w fun e w' => ∃ k : Int, e = .returned (.int .i64 k) ∧ decide (0 ≤ k) = !(l.all rightB) ∧ Ext w w' := by
  have HR := Lib.hid hr; have H0 := Lib.hid hok; have HF := Lib.hid hR
  clear hr hok hR
  go_enter Tryz.func188, Tryz.ntmps188
  go_wp2_with fail
  go_loopw [8] (fun i wr => ∃ (k : Nat), k ≤ l.length ∧ i = .int .i64 k ∧ (l.take k).all rightB = true ∧ Ext w wr) (fun i _ => l.length - (intOf i).toNat)
  case atStart => exact ⟨0, by omega, rfl, by simp, Below.refl _ _⟩
  case round =>
    obtain ⟨k, hk, rfl, ha, hx⟩ := hrel
    have K1 := Lib.hid ha; have K2 := Lib.hid hx
    clear ha hx
    by_cases hlt : k < l.length
    · obtain ⟨x, hx⟩ : ∃ x, l[k]? = some x := ⟨_, List.getElem?_eq_getElem hlt⟩
      have hxok := H0.out x (List.mem_of_getElem? hx)
      have htk : (l.take (k + 1)).all rightB = ((l.take k).all rightB && rightB x) := by rw [List.take_add_one, hx]; simp
      obtain ⟨b, off, rfl, hb, hcell⟩ := HR.out (by intro e; rw [e] at hlt; simp at hlt)
      have hcx := hcell k x hx
      have hmove : ∀ j, wr.cell? ⟨b, j, none⟩ = w.cell? ⟨b, j, none⟩ := fun j => K2.out.cell (p := ⟨b, j, none⟩) hb
      have hmem : x ∈ l := List.mem_of_getElem? hx
      have M := Lib.hid hmem; have TK := Lib.hid htk; have XK := Lib.hid hxok
      clear hmem htk hxok hx hcell
      obtain ⟨kd, key, val, num⟩ := x
      have d0 := (hmove _).trans (hcx 0 _ rfl); have d1 := (hmove _).trans (hcx 1 _ rfl); have d2 := (hmove _).trans (hcx 2 _ rfl); have d3 := (hmove _).trans (hcx 3 _ rfl)
      simp only [Nat.add_zero] at d0
      clear hcx hmove
      go_wp2_with fail
      refine (right1_calls HF.out ⟨kd, key, val, num⟩ _ XK.out).mono ?_
      rintro e w' ⟨rfl, hx2⟩
      have X2 := Lib.hid hx2; clear hx2
      cases hrb : rightB ⟨kd, key, val, num⟩
      · have RB := Lib.hid hrb; clear hrb
        go_wp2_with fail
        go_ret
        exact ⟨k, ret_int (by omega), by
          have : l.all rightB = false := by rw [List.all_eq_false]; exact ⟨_, M.out, by simp [RB.out]⟩
          rw [this]; simp, Ext.trans K2.out X2.out⟩
      · have RB := Lib.hid hrb; clear hrb
        go_wp2_with fail
        go_roundw
        case rel => exact ⟨k + 1, by omega, by go_num, by rw [TK.out, K1.out, RB.out]; rfl, Ext.trans K2.out X2.out⟩
        case measure => simp [intOf]; omega
    · go_wp2_with fail
      go_ret
      exact ⟨-1, ret_int (by omega), by have h := K1.out; rw [List.take_of_length_le (by omega)] at h; rw [h]; simp, K2.out⟩

theorem containsFunc_calls (hR : RightOne) (l : List ActD) (ao : Option Addr) (cap : Nat) (w : World) (hl : l.length ≤ 1000000) (hok : ∀ a ∈ l, a.ok) (hr : Rows 4 encAct w.heap.size w ao l) :
    Calls Tryz.prog 158 #[.slice ao l.length cap, .func (.func 159) #[] #[]] w fun e w' => e = .returned (.bool (!(l.all rightB))) ∧ Ext w w' := by
  have HR := Lib.hid hr; have H0 := Lib.hid hok; have HF := Lib.hid hR
  clear hr hok hR
  go_enter Tryz.func158, Tryz.ntmps158
  go_wp2_with fail
  refine (indexFunc_calls HF.out l ao cap _ hl H0.out HR.out).mono ?_
  rintro e w' ⟨k, rfl, hk, hx⟩
  have X2 := Lib.hid hx; have K2 := Lib.hid hk; clear hx hk
  go_wp2_with fail
  go_ret
  exact ⟨ret_bool (by rw [← K2.out]), X2.out⟩

theorem rights_calls (hR : RightOne) (l : List ActD) (ao : Option Addr) (cap : Nat) (w : World) (hl : l.length ≤ 1000000) (hok : ∀ a ∈ l, a.ok) (hr : Rows 4 encAct w.heap.size w ao l) :
    Calls Tryz.prog 128 #[.slice ao l.length cap] w fun e w' => e = .returned (.bool (rightsB l)) ∧ Ext w w' := by
  have HR := Lib.hid hr; have H0 := Lib.hid hok; have HF := Lib.hid hR
  clear hr hok hR
  by_cases h1 : 1 ≤ l.length
  · by_cases h6 : l.length ≤ 6
    · have g1 : decide ((1 : Int) ≤ l.length) = true := by simp; omega
      have g6 : decide ((l.length : Int) ≤ 6) = true := by simp; omega
      go_enter Tryz.func128, Tryz.ntmps128
      go_wp2_with fail
      refine (containsFunc_calls HF.out l ao cap _ hl H0.out HR.out).mono ?_
      rintro e w' ⟨rfl, hx⟩
      have X2 := Lib.hid hx; clear hx
      go_wp2_with fail
      go_ret
      exact ⟨ret_bool (by simp [rightsB, h1, h6]), X2.out⟩
    · have g1 : decide ((1 : Int) ≤ l.length) = true := by simp; omega
      have g6 : decide ((l.length : Int) ≤ 6) = false := by simp; omega
      go_enter Tryz.func128, Tryz.ntmps128
      go_wp2_with fail
      go_ret
      exact ⟨ret_bool (by simp [rightsB, h6]), Below.refl _ _⟩
  · have g1 : decide ((1 : Int) ≤ l.length) = false := by simp; omega
    go_enter Tryz.func128, Tryz.ntmps128
    go_wp2_with fail
    go_ret
    exact ⟨ret_bool (by simp [rightsB, h1]), Below.refl _ _⟩
end Go.Proofs.YtdmejbjpbjcfbaaGreatDoor
