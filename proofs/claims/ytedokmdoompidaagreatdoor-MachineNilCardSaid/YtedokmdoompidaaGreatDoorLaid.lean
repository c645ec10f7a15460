/- What the rows' listed variables give the walks; a world in which they hold. -/
import Derived.Test.YtedokmdoompidaaGreatDoorLV
import Derived.Test.YtedokmdoompidaaGreatDoorRows
import Derived.ProofKit
import Derived.Lay
import Derived.LaidMore
import Derived.Stop.Joined
import Derived.Stop.LaidErr
import Derived.Lib.LaidTab
namespace Go.Proofs.YtedokmdoompidaaGreatDoor
open Go.RowKit

theorem own : ownKnob Tryz.prog.godebug = none := by kernel_rfl

/-- The variables that every row lists. -/
def laidAllD : List (String × DataW Unit) := [("math/bits.deBruijn32tab", Rows.laid_math_bits_deBruijn32tab), ("math/bits.deBruijn64tab", Rows.laid_math_bits_deBruijn64tab), ("internal/strconv.uint64pow10", Rows.laid_internal_strconv_uint64pow10), ("unicode/utf8.acceptRanges", Rows.laid_unicode_utf8_acceptRanges), ("strconv.ErrRange", Rows.laid_strconv_ErrRange), ("strconv.ErrSyntax", Rows.laid_strconv_ErrSyntax), ("unicode/utf8.first", Rows.laid_unicode_utf8_first)]

theorem door_met (os : Os) (args : Array Value) : laidMetH Tryz.prog laidAllD ((World.laidAll Tryz.prog os laidAllD).forCall (fun _ _ => 0) ⟨#[], args, []⟩).memory := by
  rw [MakeChecks.laidMetH_plain _ _ _ (by kernel_rfl)]
  exact laidMet_laidAll _ (by kernel_rfl) (by kernel_rfl)

theorem star : "*" ++ "errors.errorString" = "*errors.errorString" := by decide
theorem rowErr (u : TypeId) (h : Tryz.prog.typeName? 3 u = some "*errors.errorString") : u = 499 :=
  typeName_ptr_named (nm := "errors.errorString") (by rw [star]; kernel_rfl) (by kernel_rfl) (by decide) u (by rw [star]; exact h)
theorem pow10_eq : (Rows.laid_internal_strconv_uint64pow10 : DataW Unit) = Lib.tabData .u64 Lib.pow10Tab := by kernel_rfl
theorem lv_of_laid {W : World} (h : laidMetH Tryz.prog laidAllD W) : LV W.heap.size W := by
  rw [MakeChecks.laidMetH_plain _ _ _ (by kernel_rfl)] at h
  have h2 := h.tail.tail
  have h3 := h2.tail.tail
  have h4 := h3.tail
  have t1 : Lib.TabIs Tryz.prog W "internal/strconv.uint64pow10" .u64 Lib.pow10Tab :=
    Lib.tabIs_of_head (rest := _) gPow10 (by kernel_rfl) Tryz.underlying495 Tryz.underlying427 (by kernel_rfl) (by kernel_rfl) (by rw [← pow10_eq]; exact h2)
  obtain ⟨a3, s3, v3, -, -, -⟩ := laid_sentinel h3 gErrRange (by kernel_rfl) Tryz.underlying431 rowErr Tryz.underlying499 Tryz.underlying501 rfl rfl Tryz.underlying9 (by kernel_rfl) (by kernel_rfl)
  obtain ⟨a4, s4, v4, -, -, -⟩ := laid_sentinel h4 gErrSyntax (by kernel_rfl) Tryz.underlying431 rowErr Tryz.underlying499 Tryz.underlying501 rfl rfl Tryz.underlying9 (by kernel_rfl) (by kernel_rfl)
  exact ⟨t1, ⟨_, _, v4⟩, ⟨_, _, v3⟩, var_lt gPow10 t1, var_lt gErrSyntax v4, var_lt gErrRange v3⟩
end Go.Proofs.YtedokmdoompidaaGreatDoor
