/- What the rows' listed variables give the walks; a world in which they hold. -/
import Derived.Test.YtngahblgicjoiaaGreatDoorLV
import Derived.Test.YtngahblgicjoiaaGreatDoorOpenS
import Derived.ProofKit
import Derived.Lay
import Derived.LaidMore
import Derived.Stop.Joined
import Derived.Stop.LaidErr
import Derived.Lib.LaidTab
namespace Go.Proofs.YtngahblgicjoiaaGreatDoor
open Go.RowKit

/-- The variables that every row lists. -/
def laidAllW : List (String × DataW Unit) := [("math/bits.deBruijn32tab", Rows.laid_math_bits_deBruijn32tab), ("math/bits.deBruijn64tab", Rows.laid_math_bits_deBruijn64tab), ("internal/strconv.uint64pow10", Rows.laid_internal_strconv_uint64pow10), ("unicode/utf8.acceptRanges", Rows.laid_unicode_utf8_acceptRanges), ("strconv.ErrRange", Rows.laid_strconv_ErrRange), ("strconv.ErrSyntax", Rows.laid_strconv_ErrSyntax), ("unicode/utf8.first", Rows.laid_unicode_utf8_first)]

theorem door_metW (os : Os) (args : Array Value) : laidMetH Tryz.prog laidAllW ((World.laidAll Tryz.prog os laidAllW).forCall (fun _ _ => 0) ⟨#[], args, []⟩).memory := by
  rw [MakeChecks.laidMetH_plain _ _ _ (by kernel_rfl)]
  exact laidMet_laidAll _ (by kernel_rfl) (by kernel_rfl)

theorem star : "*" ++ "errors.errorString" = "*errors.errorString" := by decide
theorem rowErr (u : TypeId) (h : Tryz.prog.typeName? 3 u = some "*errors.errorString") : u = 375 :=
  typeName_ptr_named (nm := "errors.errorString") (by rw [star]; kernel_rfl) (by kernel_rfl) (by decide) u (by rw [star]; exact h)
theorem pow10_eq : (Rows.laid_internal_strconv_uint64pow10 : DataW Unit) = Lib.tabData .u64 Lib.pow10Tab := by kernel_rfl
theorem lv_of_laid {W : World} (h : laidMetH Tryz.prog laidAllW W) : LV W.heap.size W := by
  rw [MakeChecks.laidMetH_plain _ _ _ (by kernel_rfl)] at h
  have h2 := h.tail.tail
  have h3 := h2.tail.tail
  have h4 := h3.tail
  have t1 : Lib.TabIs Tryz.prog W "internal/strconv.uint64pow10" .u64 Lib.pow10Tab :=
    Lib.tabIs_of_head (rest := _) gPow10 (by kernel_rfl) Tryz.underlying371 Tryz.underlying241 (by kernel_rfl) (by kernel_rfl) (by rw [← pow10_eq]; exact h2)
  obtain ⟨a3, s3, v3, -, -, -⟩ := laid_sentinel h3 gErrRange (by kernel_rfl) Tryz.underlying330 rowErr Tryz.underlying375 Tryz.underlying377 rfl rfl Tryz.underlying9 (by kernel_rfl) (by kernel_rfl)
  obtain ⟨a4, s4, v4, -, -, -⟩ := laid_sentinel h4 gErrSyntax (by kernel_rfl) Tryz.underlying330 rowErr Tryz.underlying375 Tryz.underlying377 rfl rfl Tryz.underlying9 (by kernel_rfl) (by kernel_rfl)
  exact ⟨t1, ⟨_, _, v4⟩, ⟨_, _, v3⟩, var_lt gPow10 t1, var_lt gErrSyntax v4, var_lt gErrRange v3⟩

open Go.ChangeShapes Go.WideShapes Go.ChangeAt Go.Deep Go.Joins
theorem okWide_struct' {P : Program} {w : World} {r : Reach} {b : Nat} {t : TypeId} {v : Value} {fs : Array Field} (ht : P.underlying t = some (.struct fs)) (h : Value.okWide P w r b t v) : ∃ cs, v = .agg cs ∧ cs.size = P.cellsOf t := by
  simp only [Value.okWide, ht] at h
  obtain ⟨cs, e, hs, -⟩ := h
  exact ⟨cs, e, hs⟩
set_option maxRecDepth 10000 in
/-- A step that a call is given, opened. -/
theorem open_stepV {H : Type} {enc : TypeId × Value → H} {W : World} {b0 : Nat} {spare : Nat → Bool} {held : Bool} {r : Reach} {v : Value} {d : DataW H} {p : List MemPlace} (hv : Value.okWide Tryz.prog W r b0 38 v) (h : DataW.Trod enc Tryz.prog W 0 spare held 38 v d p) :
    ∃ z : StepZ, v = .agg (encStep z).toArray ∧ SGood W z (DataW.weights Tryz.prog 38 d) := by
  obtain ⟨cs, rfl, hsz⟩ := okWide_struct' Tryz.underlying38 hv
  have hc : Tryz.prog.cellsOf 38 = 6 := by kernel_rfl
  rw [hc] at hsz
  obtain ⟨fuel, hf⟩ := h
  obtain ⟨z, hz, hg⟩ := open_step (cs' := (Value.agg cs).cells.toList) (by simpa [Value.cells] using hsz) hf
  exact ⟨z, by rw [hz]; simp [Value.cells], hg⟩
end Go.Proofs.YtngahblgicjoiaaGreatDoor
