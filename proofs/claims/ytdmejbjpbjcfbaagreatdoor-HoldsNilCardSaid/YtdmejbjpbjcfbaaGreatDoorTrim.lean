/- The package act's cut; strings.Trim. -/
import Derived.Test.YtdmejbjpbjcfbaaGreatDoorBase
import Derived.Test.YtdmejbjpbjcfbaaGreatDoorShelf
import Derived.Test.YtdmejbjpbjcfbaaGreatDoorNumDefs
import Derived.Shelf.Strings.SlTrimAscii
namespace Go.Proofs.YtdmejbjpbjcfbaaGreatDoor
open Go.RowKit

theorem cutI_bd (n : Int) : -1073741824 ≤ cutI n ∧ cutI n ≤ 1073741824 := by unfold cutI; omega
theorem cut_calls (n : Int) (w : World) : Calls Tryz.prog 190 #[.int .i64 n] w fun e w' => e = .returned (.int .i64 (cutI n)) ∧ w = w' := by
  go_enter Tryz.func190, Tryz.ntmps190
  go_wp2
  all_goals (go_ret; exact ⟨ret_int (by unfold cutI; omega), rfl⟩)

theorem trim_calls (s : ByteArray) (cs : ByteArray) (w : World) (hs : s.size ≤ 9223372036854775807) (hc : cs.size < 4294967281) (ha : cs.data.toList.all (fun b => decide (b.toNat < 128)) = true) :
    Calls Tryz.prog 189 #[.string s, .string cs] w fun e w' => e = .returned (.string ⟨(Lib.trimS s.data.toList cs.data.toList).toArray⟩) ∧ Ext w w' :=
  Any.strings_Trim_laid Tryz.lays160 (by kernel_rfl) s cs w hs hc (ascii_of_all ha)

end Go.Proofs.YtdmejbjpbjcfbaaGreatDoor
