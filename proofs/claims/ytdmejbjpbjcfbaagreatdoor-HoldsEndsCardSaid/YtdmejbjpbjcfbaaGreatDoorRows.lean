/-
  NARROWER THAN 'FOR EVERY INPUT', by the rows' own cells (each row's printed sentence says how): HoldsOne: laid · HoldsBytes: laid · HoldsSpans: laid · HoldsRuns: laid · HoldsNil: laid · HoldsEnds: laid.
  DERIVED. THE GIVEN ROWS OF THIS SEAT. 6 by the template 'for every input the law returns true; each argument reads behind the call as it read before'; 0 by the template 'total and deterministic' (their statements: YtdmejbjpbjcfbaaGreatDoorTotals.lean).
  GIVEN WITH THE SEED: the statements are not yours to turn. If you find one false, say at which input.
  Laid BY PROGRAM, IN A SANDBOX (cutbox-rows.mjs): the forced cells as the released guide's own fill.sh prints them over the translation 5a110c5af420a2a7… (all of the seat's roots in one cut). By AI agents, Wed Nov 11 2026. No macro, syntax, notation, axiom, sorry.
-/
import Derived.Test.YtdmejbjpbjcfbaaGreatDoorChecked
import GoSem.PinnedTables
import GoSem.Claim
import GoSem.ClaimJoined
import GoSem.ClaimMapViews
import Derived.JoinedTies
import Derived.KernelRfl
namespace Go.Proofs.YtdmejbjpbjcfbaaGreatDoor
/- THE CELL 'sum', in the pinned program and in every row, IS THE sha256 OF THE DUMP (.gsa) THAT YtdmejbjpbjcfbaaGreatDoorProg.lean LOADS. Nothing in Lean hashes anything: it is a label: what it is worth is what the hold of that sum in a sandbox is worth. -/
noncomputable def Tryz.pinned : Pinned := { name := "ytdmejbjpbjcfbaagreatdoor", sum := "5a110c5af420a2a7d6126f88d3789fc7d197dff850cf5e40e0ec938d3d896c3a", checked := Tryz.checked }
namespace Rows
def none {H : Type} : Left H := { results := [], args := [] }

/- WHAT THE LISTED PACKAGE-LEVEL VARIABLES READ AS WHEN THE CALL BEGINS. Each datum BY PROGRAM (the guide's laid-datum.mjs) off the statement by which the dump's own 'gosem.cut.vars' lays the variable. In a bare row this is a premise. The card (YtdmejbjpbjcfbaaGreatDoorCards.lean) ties it to the program's text. -/
def laid_unicode_utf8_acceptRanges {H : Type} : DataW H := .agg [.agg [.lit (.int .u8 128), .lit (.int .u8 191)], .agg [.lit (.int .u8 160), .lit (.int .u8 191)], .agg [.lit (.int .u8 128), .lit (.int .u8 159)], .agg [.lit (.int .u8 144), .lit (.int .u8 191)], .agg [.lit (.int .u8 128), .lit (.int .u8 143)], .agg [.lit (.int .u8 0), .lit (.int .u8 0)], .agg [.lit (.int .u8 0), .lit (.int .u8 0)], .agg [.lit (.int .u8 0), .lit (.int .u8 0)], .agg [.lit (.int .u8 0), .lit (.int .u8 0)], .agg [.lit (.int .u8 0), .lit (.int .u8 0)], .agg [.lit (.int .u8 0), .lit (.int .u8 0)], .agg [.lit (.int .u8 0), .lit (.int .u8 0)], .agg [.lit (.int .u8 0), .lit (.int .u8 0)], .agg [.lit (.int .u8 0), .lit (.int .u8 0)], .agg [.lit (.int .u8 0), .lit (.int .u8 0)], .agg [.lit (.int .u8 0), .lit (.int .u8 0)]]
/-- One of Go's own tables, pinned by name: the form's constant. -/
def laid_unicode_utf8_first : DataW Unit := Go.Pinned.utf8First

/-- 'watershedlaw16.HoldsOne': WHATEVER THE INPUT: true; the input reads as it did. -/
def holdsOneSpec : ChangeSpec := { name := "holdsOne", fn := fun _ => fun
  | [d1, d2, d3] => { results := [.lit (.bool true)], args := [d1, d2, d3] }
  | _ => none }
def holdsOneRow : OpenClaim := { program := "ytdmejbjpbjcfbaagreatdoor", sum := "5a110c5af420a2a7d6126f88d3789fc7d197dff850cf5e40e0ec938d3d896c3a", func := "watershed/watershedlaw16.HoldsOne", spec := "holdsOne", inPlace := ["internal/bytealg.IndexByteString", "internal/bytealg.IndexString", "slices.overlaps[watershed/api.Hold]"], unfollowed := true, recurses := true, named := ["unicode/utf8.first", "unicode/utf8.acceptRanges", "internal/bytealg.MaxLen"], apart := false, laid := [("unicode/utf8.acceptRanges", laid_unicode_utf8_acceptRanges), ("unicode/utf8.first", laid_unicode_utf8_first)] }
def HoldsOneSaid : Prop := holdsOneRow.holds Tryz.pinned (OpenSpec.ofChange holdsOneSpec)

/-- ITS FALSE NEIGHBOUR: 'it returns false'. Refute it at one input. -/
def holdsOneWrong : ChangeSpec := { name := "holdsOne", fn := fun _ => fun
  | [d1, d2, d3] => { results := [.lit (.bool false)], args := [d1, d2, d3] }
  | _ => none }
def HoldsOneWrongFalsely : Prop := holdsOneRow.holds Tryz.pinned (OpenSpec.ofChange holdsOneWrong)

/-- 'watershedlaw16.HoldsBytes': WHATEVER THE INPUT: true; the input reads as it did. -/
def holdsBytesSpec : ChangeSpec := { name := "holdsBytes", fn := fun _ => fun
  | [d1, d2] => { results := [.lit (.bool true)], args := [d1, d2] }
  | _ => none }
def holdsBytesRow : OpenClaim := { program := "ytdmejbjpbjcfbaagreatdoor", sum := "5a110c5af420a2a7d6126f88d3789fc7d197dff850cf5e40e0ec938d3d896c3a", func := "watershed/watershedlaw16.HoldsBytes", spec := "holdsBytes", inPlace := ["internal/bytealg.IndexByteString", "internal/bytealg.IndexString", "slices.overlaps[watershed/api.Hold]"], unfollowed := true, recurses := true, named := ["unicode/utf8.first", "unicode/utf8.acceptRanges", "internal/bytealg.MaxLen"], apart := false, laid := [("unicode/utf8.acceptRanges", laid_unicode_utf8_acceptRanges), ("unicode/utf8.first", laid_unicode_utf8_first)] }
def HoldsBytesSaid : Prop := holdsBytesRow.holds Tryz.pinned (OpenSpec.ofChange holdsBytesSpec)

/-- ITS FALSE NEIGHBOUR: 'it returns false'. Refute it at one input. -/
def holdsBytesWrong : ChangeSpec := { name := "holdsBytes", fn := fun _ => fun
  | [d1, d2] => { results := [.lit (.bool false)], args := [d1, d2] }
  | _ => none }
def HoldsBytesWrongFalsely : Prop := holdsBytesRow.holds Tryz.pinned (OpenSpec.ofChange holdsBytesWrong)

/-- 'watershedlaw16.HoldsSpans': WHATEVER THE INPUT: true; the input reads as it did. -/
def holdsSpansSpec : ChangeSpec := { name := "holdsSpans", fn := fun _ => fun
  | [d1, d2, d3] => { results := [.lit (.bool true)], args := [d1, d2, d3] }
  | _ => none }
def holdsSpansRow : OpenClaim := { program := "ytdmejbjpbjcfbaagreatdoor", sum := "5a110c5af420a2a7d6126f88d3789fc7d197dff850cf5e40e0ec938d3d896c3a", func := "watershed/watershedlaw16.HoldsSpans", spec := "holdsSpans", inPlace := ["internal/bytealg.IndexByteString", "internal/bytealg.IndexString", "slices.overlaps[watershed/api.Hold]"], unfollowed := true, recurses := true, named := ["unicode/utf8.first", "unicode/utf8.acceptRanges", "internal/bytealg.MaxLen"], apart := false, laid := [("unicode/utf8.acceptRanges", laid_unicode_utf8_acceptRanges), ("unicode/utf8.first", laid_unicode_utf8_first)] }
def HoldsSpansSaid : Prop := holdsSpansRow.holds Tryz.pinned (OpenSpec.ofChange holdsSpansSpec)

/-- ITS FALSE NEIGHBOUR: 'it returns false'. Refute it at one input. -/
def holdsSpansWrong : ChangeSpec := { name := "holdsSpans", fn := fun _ => fun
  | [d1, d2, d3] => { results := [.lit (.bool false)], args := [d1, d2, d3] }
  | _ => none }
def HoldsSpansWrongFalsely : Prop := holdsSpansRow.holds Tryz.pinned (OpenSpec.ofChange holdsSpansWrong)

/-- 'watershedlaw16.HoldsRuns': WHATEVER THE INPUT: true; the input reads as it did. -/
def holdsRunsSpec : ChangeSpec := { name := "holdsRuns", fn := fun _ => fun
  | [d1, d2, d3, d4, d5] => { results := [.lit (.bool true)], args := [d1, d2, d3, d4, d5] }
  | _ => none }
def holdsRunsRow : OpenClaim := { program := "ytdmejbjpbjcfbaagreatdoor", sum := "5a110c5af420a2a7d6126f88d3789fc7d197dff850cf5e40e0ec938d3d896c3a", func := "watershed/watershedlaw16.HoldsRuns", spec := "holdsRuns", inPlace := ["internal/bytealg.IndexByteString", "internal/bytealg.IndexString", "slices.overlaps[watershed/api.Hold]"], unfollowed := true, recurses := true, named := ["unicode/utf8.first", "unicode/utf8.acceptRanges", "internal/bytealg.MaxLen"], apart := false, laid := [("unicode/utf8.acceptRanges", laid_unicode_utf8_acceptRanges), ("unicode/utf8.first", laid_unicode_utf8_first)] }
def HoldsRunsSaid : Prop := holdsRunsRow.holds Tryz.pinned (OpenSpec.ofChange holdsRunsSpec)

/-- ITS FALSE NEIGHBOUR: 'it returns false'. Refute it at one input. -/
def holdsRunsWrong : ChangeSpec := { name := "holdsRuns", fn := fun _ => fun
  | [d1, d2, d3, d4, d5] => { results := [.lit (.bool false)], args := [d1, d2, d3, d4, d5] }
  | _ => none }
def HoldsRunsWrongFalsely : Prop := holdsRunsRow.holds Tryz.pinned (OpenSpec.ofChange holdsRunsWrong)

/-- 'watershedlaw16.HoldsNil': WHATEVER THE INPUT: true; the input reads as it did. -/
def holdsNilSpec : ChangeSpec := { name := "holdsNil", fn := fun _ => fun
  | [d1, d2] => { results := [.lit (.bool true)], args := [d1, d2] }
  | _ => none }
def holdsNilRow : OpenClaim := { program := "ytdmejbjpbjcfbaagreatdoor", sum := "5a110c5af420a2a7d6126f88d3789fc7d197dff850cf5e40e0ec938d3d896c3a", func := "watershed/watershedlaw16.HoldsNil", spec := "holdsNil", inPlace := ["internal/bytealg.IndexByteString", "internal/bytealg.IndexString", "slices.overlaps[watershed/api.Hold]"], unfollowed := true, recurses := true, named := ["unicode/utf8.first", "unicode/utf8.acceptRanges", "internal/bytealg.MaxLen"], apart := false, laid := [("unicode/utf8.acceptRanges", laid_unicode_utf8_acceptRanges), ("unicode/utf8.first", laid_unicode_utf8_first)] }
def HoldsNilSaid : Prop := holdsNilRow.holds Tryz.pinned (OpenSpec.ofChange holdsNilSpec)

/-- ITS FALSE NEIGHBOUR: 'it returns false'. Refute it at one input. -/
def holdsNilWrong : ChangeSpec := { name := "holdsNil", fn := fun _ => fun
  | [d1, d2] => { results := [.lit (.bool false)], args := [d1, d2] }
  | _ => none }
def HoldsNilWrongFalsely : Prop := holdsNilRow.holds Tryz.pinned (OpenSpec.ofChange holdsNilWrong)

/-- 'watershedlaw16.HoldsEnds': WHATEVER THE INPUT: true; the input reads as it did. -/
def holdsEndsSpec : ChangeSpec := { name := "holdsEnds", fn := fun _ => fun
  | [] => { results := [.lit (.bool true)], args := [] }
  | _ => none }
def holdsEndsRow : OpenClaim := { program := "ytdmejbjpbjcfbaagreatdoor", sum := "5a110c5af420a2a7d6126f88d3789fc7d197dff850cf5e40e0ec938d3d896c3a", func := "watershed/watershedlaw16.HoldsEnds", spec := "holdsEnds", inPlace := ["internal/bytealg.IndexByteString", "internal/bytealg.IndexString", "slices.overlaps[watershed/api.Hold]"], unfollowed := true, recurses := true, named := ["unicode/utf8.first", "unicode/utf8.acceptRanges", "internal/bytealg.MaxLen"], apart := false, laid := [("unicode/utf8.acceptRanges", laid_unicode_utf8_acceptRanges), ("unicode/utf8.first", laid_unicode_utf8_first)] }
def HoldsEndsSaid : Prop := holdsEndsRow.holds Tryz.pinned (OpenSpec.ofChange holdsEndsSpec)

/-- ITS FALSE NEIGHBOUR: 'it returns false'. Refute it at one input. -/
def holdsEndsWrong : ChangeSpec := { name := "holdsEnds", fn := fun _ => fun
  | [] => { results := [.lit (.bool false)], args := [] }
  | _ => none }
def HoldsEndsWrongFalsely : Prop := holdsEndsRow.holds Tryz.pinned (OpenSpec.ofChange holdsEndsWrong)

/- THE SECOND FORM. 'bulk': how many values and letters a reading holds, each counted each time it is reached (what is shared counts as often as it is met; a slice's spare places count too). A statement '..UptoSaid' is the law's where the arguments, and the package variables that the reading takes, are together of bulk at most 1048576: NARROWER than '..Said'. Prove '..Said' where nothing that the law and all that it calls make is longer than what came in: it says more and counts as full. Else prove '..UptoSaid'. A law counts once. -/
mutual
def uptoBulk {H : Type} : DataW H → Nat
  | .lit (.string bytes) => bytes.length + 1
  | .lit _ => 1
  | .nil => 1
  | .ptr d => uptoBulk d + 1
  | .slice elems spare => uptoBulkAll elems + uptoBulkAll spare + 1
  | .agg parts => uptoBulkAll parts + 1
  | .iface _ d => uptoBulk d + 1
  | .map entries => uptoBulkEntries entries + 1
  | .held _ => 1
def uptoBulkAll {H : Type} : List (DataW H) → Nat
  | [] => 0
  | d :: r => uptoBulk d + uptoBulkAll r
def uptoBulkEntries {H : Type} : List (Lit × DataW H) → Nat
  | [] => 0
  | x :: r => uptoBulkEntry x + uptoBulkEntries r
def uptoBulkEntry {H : Type} : Lit × DataW H → Nat
  | (.string bytes, d) => bytes.length + uptoBulk d + 1
  | (_, d) => uptoBulk d + 1
 end
def uptoSmall : (H : Type) → List (DataW H) → Bool := fun _ ds => decide (uptoBulkAll ds ≤ 1048576)
def OpenSpec.upto (s : _root_.Go.ChangeSpec) : _root_.Go.OpenSpec := { _root_.Go.OpenSpec.ofChange s with cond := some uptoSmall }

/-- 'watershedlaw16.HoldsOne', WHERE WHAT IT READS IS OF BULK AT MOST 1048576: true; the input reads as it did. -/
def holdsOneUptoRow : OpenClaim := { program := "ytdmejbjpbjcfbaagreatdoor", sum := "5a110c5af420a2a7d6126f88d3789fc7d197dff850cf5e40e0ec938d3d896c3a", func := "watershed/watershedlaw16.HoldsOne", spec := "holdsOne", inPlace := ["internal/bytealg.IndexByteString", "internal/bytealg.IndexString", "slices.overlaps[watershed/api.Hold]"], unfollowed := true, recurses := true, named := ["unicode/utf8.first", "unicode/utf8.acceptRanges", "internal/bytealg.MaxLen"], apart := false, laid := [("unicode/utf8.acceptRanges", laid_unicode_utf8_acceptRanges), ("unicode/utf8.first", laid_unicode_utf8_first)], narrowed := true }
def HoldsOneUptoSaid : Prop := holdsOneUptoRow.holds Tryz.pinned (OpenSpec.upto holdsOneSpec)

/-- 'watershedlaw16.HoldsBytes', WHERE WHAT IT READS IS OF BULK AT MOST 1048576: true; the input reads as it did. -/
def holdsBytesUptoRow : OpenClaim := { program := "ytdmejbjpbjcfbaagreatdoor", sum := "5a110c5af420a2a7d6126f88d3789fc7d197dff850cf5e40e0ec938d3d896c3a", func := "watershed/watershedlaw16.HoldsBytes", spec := "holdsBytes", inPlace := ["internal/bytealg.IndexByteString", "internal/bytealg.IndexString", "slices.overlaps[watershed/api.Hold]"], unfollowed := true, recurses := true, named := ["unicode/utf8.first", "unicode/utf8.acceptRanges", "internal/bytealg.MaxLen"], apart := false, laid := [("unicode/utf8.acceptRanges", laid_unicode_utf8_acceptRanges), ("unicode/utf8.first", laid_unicode_utf8_first)], narrowed := true }
def HoldsBytesUptoSaid : Prop := holdsBytesUptoRow.holds Tryz.pinned (OpenSpec.upto holdsBytesSpec)

/-- 'watershedlaw16.HoldsSpans', WHERE WHAT IT READS IS OF BULK AT MOST 1048576: true; the input reads as it did. -/
def holdsSpansUptoRow : OpenClaim := { program := "ytdmejbjpbjcfbaagreatdoor", sum := "5a110c5af420a2a7d6126f88d3789fc7d197dff850cf5e40e0ec938d3d896c3a", func := "watershed/watershedlaw16.HoldsSpans", spec := "holdsSpans", inPlace := ["internal/bytealg.IndexByteString", "internal/bytealg.IndexString", "slices.overlaps[watershed/api.Hold]"], unfollowed := true, recurses := true, named := ["unicode/utf8.first", "unicode/utf8.acceptRanges", "internal/bytealg.MaxLen"], apart := false, laid := [("unicode/utf8.acceptRanges", laid_unicode_utf8_acceptRanges), ("unicode/utf8.first", laid_unicode_utf8_first)], narrowed := true }
def HoldsSpansUptoSaid : Prop := holdsSpansUptoRow.holds Tryz.pinned (OpenSpec.upto holdsSpansSpec)

/-- 'watershedlaw16.HoldsRuns', WHERE WHAT IT READS IS OF BULK AT MOST 1048576: true; the input reads as it did. -/
def holdsRunsUptoRow : OpenClaim := { program := "ytdmejbjpbjcfbaagreatdoor", sum := "5a110c5af420a2a7d6126f88d3789fc7d197dff850cf5e40e0ec938d3d896c3a", func := "watershed/watershedlaw16.HoldsRuns", spec := "holdsRuns", inPlace := ["internal/bytealg.IndexByteString", "internal/bytealg.IndexString", "slices.overlaps[watershed/api.Hold]"], unfollowed := true, recurses := true, named := ["unicode/utf8.first", "unicode/utf8.acceptRanges", "internal/bytealg.MaxLen"], apart := false, laid := [("unicode/utf8.acceptRanges", laid_unicode_utf8_acceptRanges), ("unicode/utf8.first", laid_unicode_utf8_first)], narrowed := true }
def HoldsRunsUptoSaid : Prop := holdsRunsUptoRow.holds Tryz.pinned (OpenSpec.upto holdsRunsSpec)

/-- 'watershedlaw16.HoldsNil', WHERE WHAT IT READS IS OF BULK AT MOST 1048576: true; the input reads as it did. -/
def holdsNilUptoRow : OpenClaim := { program := "ytdmejbjpbjcfbaagreatdoor", sum := "5a110c5af420a2a7d6126f88d3789fc7d197dff850cf5e40e0ec938d3d896c3a", func := "watershed/watershedlaw16.HoldsNil", spec := "holdsNil", inPlace := ["internal/bytealg.IndexByteString", "internal/bytealg.IndexString", "slices.overlaps[watershed/api.Hold]"], unfollowed := true, recurses := true, named := ["unicode/utf8.first", "unicode/utf8.acceptRanges", "internal/bytealg.MaxLen"], apart := false, laid := [("unicode/utf8.acceptRanges", laid_unicode_utf8_acceptRanges), ("unicode/utf8.first", laid_unicode_utf8_first)], narrowed := true }
def HoldsNilUptoSaid : Prop := holdsNilUptoRow.holds Tryz.pinned (OpenSpec.upto holdsNilSpec)

/-- 'watershedlaw16.HoldsEnds', WHERE WHAT IT READS IS OF BULK AT MOST 1048576: true; the input reads as it did. -/
def holdsEndsUptoRow : OpenClaim := { program := "ytdmejbjpbjcfbaagreatdoor", sum := "5a110c5af420a2a7d6126f88d3789fc7d197dff850cf5e40e0ec938d3d896c3a", func := "watershed/watershedlaw16.HoldsEnds", spec := "holdsEnds", inPlace := ["internal/bytealg.IndexByteString", "internal/bytealg.IndexString", "slices.overlaps[watershed/api.Hold]"], unfollowed := true, recurses := true, named := ["unicode/utf8.first", "unicode/utf8.acceptRanges", "internal/bytealg.MaxLen"], apart := false, laid := [("unicode/utf8.acceptRanges", laid_unicode_utf8_acceptRanges), ("unicode/utf8.first", laid_unicode_utf8_first)], narrowed := true }
def HoldsEndsUptoSaid : Prop := holdsEndsUptoRow.holds Tryz.pinned (OpenSpec.upto holdsEndsSpec)

end Rows
end Go.Proofs.YtdmejbjpbjcfbaaGreatDoor
