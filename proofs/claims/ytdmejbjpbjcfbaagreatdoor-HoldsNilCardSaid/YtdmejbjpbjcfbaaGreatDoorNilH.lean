/- Tables of holds that are none: there, and what each method answers of them; New and Many. -/
import Derived.Test.YtdmejbjpbjcfbaaGreatDoorHoldDefs
namespace Go.Proofs.YtdmejbjpbjcfbaaGreatDoor
open Go.RowKit

/-- Is a table there? -/
def ThereIs (w : World) (p : Option Addr) (b : Bool) : Prop := (p = none ∧ b = false) ∨ ∃ hb, p = some ⟨hb, 0, none⟩ ∧ w.cell? ⟨hb, 1, none⟩ = some (.bool b)
theorem ThereIs.ext {w w' : World} {p : Option Addr} {b : Bool} (h : ThereIs w p b) (hx : Ext w w') : ThereIs w' p b := by
  rcases h with h | ⟨hb, rfl, hc⟩
  · exact .inl h
  · exact .inr ⟨hb, rfl, (hx.cell (p := ⟨hb, 1, none⟩) (block_lt_of_cell hc)).trans hc⟩
theorem there_calls (p : Option Addr) (b : Bool) (w : World) (h : ThereIs w p b) :
    Calls Tryz.prog 48 #[.pointer p] w fun e w' => e = .returned (.bool b) ∧ w = w' := by
  rcases h with ⟨rfl, rfl⟩ | ⟨hb, rfl, hc⟩
  · go_enter Tryz.func48, Tryz.ntmps48
    go_wp2_with fail
    go_ret
    exact ⟨rfl, rfl⟩
  · go_enter Tryz.func48, Tryz.ntmps48
    go_wp2_with fail
    go_ret
    exact ⟨ret_bool rfl, rfl⟩

theorem nilMany_calls (p : Option Addr) (w : World) (h : ThereIs w p false) :
    Calls Tryz.prog 16 #[.pointer p] w fun e w' => e = .returned (.int .i64 0) ∧ w = w' := by
  have HT := Lib.hid (there_calls p false w h); clear h
  go_enter Tryz.func16, Tryz.ntmps16
  go_wp2_with (go_at_call 48; refine HT.out.mono ?_; rintro e w' ⟨rfl, rfl⟩)
  go_ret
  exact ⟨rfl, rfl⟩
theorem nilCopy_calls (p : Option Addr) (w : World) (h : ThereIs w p false) :
    Calls Tryz.prog 40 #[.pointer p] w fun e w' => e = .returned (.pointer none) ∧ w = w' := by
  have HT := Lib.hid (there_calls p false w h); clear h
  go_enter Tryz.func40, Tryz.ntmps40
  go_wp2_with (go_at_call 48; refine HT.out.mono ?_; rintro e w' ⟨rfl, rfl⟩)
  go_ret
  exact ⟨rfl, rfl⟩
theorem nilNames_calls (p : Option Addr) (w : World) (h : ThereIs w p false) :
    Calls Tryz.prog 45 #[.pointer p] w fun e w' => e = .returned (.slice none 0 0) ∧ w = w' := by
  have HT := Lib.hid (there_calls p false w h); clear h
  go_enter Tryz.func45, Tryz.ntmps45
  go_wp2_with (go_at_call 48; refine HT.out.mono ?_; rintro e w' ⟨rfl, rfl⟩)
  go_ret
  exact ⟨rfl, rfl⟩
theorem nilPut_calls (p : Option Addr) (v : Value) (w : World) (h : ThereIs w p false) :
    Calls Tryz.prog 13 #[.pointer p, v] w fun e w' => e = .returned (.int .i64 1) ∧ w = w' := by
  have HT := Lib.hid (there_calls p false w h); clear h
  go_enter Tryz.func13, Tryz.ntmps13
  go_wp2_with (go_at_call 48; refine HT.out.mono ?_; rintro e w' ⟨rfl, rfl⟩)
  go_ret
  exact ⟨rfl, rfl⟩
theorem nilBy_calls (p : Option Addr) (c n : Int) (w : World) (h : ThereIs w p false) :
    Calls Tryz.prog 44 #[.pointer p, .agg #[.int .i64 c, .int .i64 n]] w fun e w' => e = .returned (.slice none 0 0) ∧ Ext w w' := by
  have HX := Lib.hid (show Ext w (w.alloc (.cells #[.int .i64 c, .int .i64 n] 24)) from (Below.refl _ w).alloc (Nat.le_refl _) _)
  have HT := Lib.hid (there_calls p false _ (h.ext HX.out)); clear h
  go_enter Tryz.func44, Tryz.ntmps44
  go_wp2_with (go_at_call 48; refine HT.out.mono ?_; rintro e w' ⟨rfl, rfl⟩)
  go_ret
  exact ⟨rfl, HX.out⟩
theorem nilFree_calls (p : Option Addr) (ao : Option Addr) (n c : Nat) (w : World) (h : ThereIs w p false) :
    Calls Tryz.prog 17 #[.pointer p, .slice ao n c] w fun e w' => e = .returned (.slice none 0 0) ∧ Ext w w' := by
  have HX := Lib.hid (show Ext w (w.alloc (.cells #[.slice ao n c] 74)) from (Below.refl _ w).alloc (Nat.le_refl _) _)
  have HT := Lib.hid (there_calls p false _ (h.ext HX.out)); clear h
  go_enter Tryz.func17, Tryz.ntmps17
  go_wp2_with (go_at_call 48; refine HT.out.mono ?_; rintro e w' ⟨rfl, rfl⟩)
  go_ret
  exact ⟨rfl, HX.out⟩
theorem nilIn_calls (p : Option Addr) (lo hi : ByteArray) (w : World) (h : ThereIs w p false) :
    Calls Tryz.prog 12 #[.pointer p, .agg #[.string lo, .string hi]] w fun e w' => e = .returned (.slice none 0 0) ∧ Ext w w' := by
  have HX := Lib.hid (show Ext w (w.alloc (.cells #[.string lo, .string hi] 31)) from (Below.refl _ w).alloc (Nat.le_refl _) _)
  have HT := Lib.hid (there_calls p false _ (h.ext HX.out)); clear h
  go_enter Tryz.func12, Tryz.ntmps12
  go_wp2_with (go_at_call 48; refine HT.out.mono ?_; rintro e w' ⟨rfl, rfl⟩)
  go_ret
  exact ⟨rfl, HX.out⟩
theorem nilTake_calls (p : Option Addr) (lo hi : ByteArray) (w : World) (h : ThereIs w p false) :
    Calls Tryz.prog 35 #[.pointer p, .agg #[.string lo, .string hi]] w fun e w' => e = .returned (.slice none 0 0) ∧ Ext w w' := by
  have HX := Lib.hid (show Ext w (w.alloc (.cells #[.string lo, .string hi] 31)) from (Below.refl _ w).alloc (Nat.le_refl _) _)
  have HT := Lib.hid (there_calls p false _ (h.ext HX.out)); clear h
  go_enter Tryz.func35, Tryz.ntmps35
  go_wp2_with (go_at_call 48; refine HT.out.mono ?_; rintro e w' ⟨rfl, rfl⟩)
  go_ret
  exact ⟨rfl, HX.out⟩

theorem new_calls (w : World) : Calls Tryz.prog 38 #[] w fun e w' => e = .returned (.pointer (some ⟨w.heap.size, 0, none⟩)) ∧ w' = w.alloc (.cells #[.slice none 0 0, .bool true] 90) := by
  go_enter Tryz.func38, Tryz.ntmps38
  go_wp2_with fail
  go_ret
  exact ⟨rfl, rfl⟩
theorem many_calls (hb : Nat) (ao : Option Addr) (n c : Nat) (w : World) (hc : w.cell? ⟨hb, 0, none⟩ = some (.slice ao n c)) (hm : w.cell? ⟨hb, 1, none⟩ = some (.bool true)) :
    Calls Tryz.prog 16 #[.pointer (some ⟨hb, 0, none⟩)] w fun e w' => e = .returned (.int .i64 n) ∧ w = w' := by
  have HT := Lib.hid (there_calls (some ⟨hb, 0, none⟩) true w (.inr ⟨hb, rfl, hm⟩)); clear hm
  go_enter Tryz.func16, Tryz.ntmps16
  go_wp2_with (go_at_call 48; refine HT.out.mono ?_; rintro e w' ⟨rfl, rfl⟩)
  go_ret
  exact ⟨ret_int (by omega), rfl⟩
end Go.Proofs.YtdmejbjpbjcfbaaGreatDoor
