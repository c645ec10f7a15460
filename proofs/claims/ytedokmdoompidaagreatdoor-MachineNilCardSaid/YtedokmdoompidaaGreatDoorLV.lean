/- The library's variables that the walks of layer 14 lean on. -/
import Derived.Test.YtedokmdoompidaaGreatDoorBase
namespace Go.Proofs.YtedokmdoompidaaGreatDoor
open Go.RowKit

/-- The library's variables, which lie below block B, hold what their initialisers lay. -/
structure LV (B : Nat) (w : World) : Prop where
  pow10 : Lib.TabIs Tryz.prog w "internal/strconv.uint64pow10" .u64 Lib.pow10Tab
  errSyntax : ∃ tp p, w.var? Tryz.prog "strconv.ErrSyntax" = some #[.iface tp p]
  errRange : ∃ tp p, w.var? Tryz.prog "strconv.ErrRange" = some #[.iface tp p]
  bd : 5 < B ∧ 3 < B ∧ 4 < B
theorem gPow10 : Tryz.prog.globalNamed "internal/strconv.uint64pow10" = some 5 := by kernel_rfl
theorem gErrSyntax : Tryz.prog.globalNamed "strconv.ErrSyntax" = some 3 := by kernel_rfl
theorem gErrRange : Tryz.prog.globalNamed "strconv.ErrRange" = some 4 := by kernel_rfl
theorem LV.ext {B : Nat} {w w' : World} (h : LV B w) (hx : Ext w w') : LV B w' := by
  obtain ⟨h1, ⟨t2, p2, h2⟩, ⟨t3, p3, h3⟩, hb⟩ := h
  exact ⟨var?_below hx gPow10 (var_lt gPow10 h1) h1, ⟨t2, p2, var?_below hx gErrSyntax (var_lt gErrSyntax h2) h2⟩, ⟨t3, p3, var?_below hx gErrRange (var_lt gErrRange h3) h3⟩, hb⟩
theorem LV.below {B : Nat} {w w' : World} (h : LV B w) (hx : Below B w w') : LV B w' := by
  obtain ⟨h1, ⟨t2, p2, h2⟩, ⟨t3, p3, h3⟩, hb1, hb2, hb3⟩ := h
  exact ⟨var?_below hx gPow10 hb1 h1, ⟨t2, p2, var?_below hx gErrSyntax hb2 h2⟩, ⟨t3, p3, var?_below hx gErrRange hb3 h3⟩, hb1, hb2, hb3⟩

end Go.Proofs.YtedokmdoompidaaGreatDoor
