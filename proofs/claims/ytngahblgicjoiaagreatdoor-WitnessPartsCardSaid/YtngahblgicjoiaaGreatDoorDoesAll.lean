/- The kit's flatX, each at no list. -/
import Derived.Test.YtngahblgicjoiaaGreatDoorOwnH
import Derived.Laws.OwnMore
import Derived.Test.YtngahblgicjoiaaGreatDoorLentLn
import Derived.Test.YtngahblgicjoiaaGreatDoorHist
import Derived.Test.YtngahblgicjoiaaGreatDoorTold
import Derived.Test.YtngahblgicjoiaaGreatDoorLawSt
namespace Go.Proofs.YtngahblgicjoiaaGreatDoor
open Go.RowKit

theorem infoLimbs : (Tryz.prog.info? 238).map (fun i => (i.zero, i.size, i.bytes)) = some (some (.slice none 0 0), 1, 24) := by kernel_rfl
set_option maxRecDepth 100000 in
theorem nilLimbs (w : World) : Calls Tryz.prog 109 #[.slice none 0 0] w fun e w' => e = .returned (.bool true) ∧ Ext w w' := by
  obtain ⟨i0, hi, hz0, hz1, hz2⟩ := info_parts infoLimbs
  go_enter Tryz.func109, Tryz.ntmps109
  go_wp2_with fail
  go_loopw [3] (fun i wr => i = .int .i64 0 ∧ Ext w wr) (fun _ _ => 0)
  case atStart => exact ⟨rfl, Below.refl _ _⟩
  case round =>
    obtain ⟨rfl, hx⟩ := hrel
    obtain ⟨wm, hmk, -, hg⟩ := run_make_full (P := Tryz.prog) wr 0 117 238 i0 _ 1 Tryz.underlying117 hi hz0 hz1 .i64 .i64 0 (by rw [hz2]; omega) (by unfold maxLen; omega) (Nat.zero_le _)
    have X := Lib.hid (Ext.trans hx (⟨hg.os, hg.tape, hg.output, hg.size, fun k hk => hg.block k hk (fun e => by cases e)⟩ : Ext wr wm))
    clear hx hg hi hz0 hz1 hz2
    simp only [Int.ofNat_zero] at hmk
    go_wp2_with fail
    go_loopw [6] (fun i wr => i = .int .i64 0 ∧ Ext w wr) (fun _ _ => 0)
    case atStart => exact ⟨rfl, X.out⟩
    case round =>
      obtain ⟨rfl, hx⟩ := hrel
      go_wp2_with fail
      go_loopw [9] (fun i wr => i = .int .i64 0 ∧ Ext w wr) (fun _ _ => 0)
      case atStart => exact ⟨rfl, hx⟩
      case round =>
        obtain ⟨rfl, hx⟩ := hrel
        go_wp2_with fail
        go_loopw [11] (fun i wr => i = .int .i64 0 ∧ Ext w wr) (fun _ _ => 0)
        case atStart => exact ⟨rfl, hx⟩
        case round =>
          obtain ⟨rfl, hx⟩ := hrel
          go_wp2_with fail
          go_loopw [14] (fun i wr => i = .int .i64 0 ∧ Ext w wr) (fun _ _ => 0)
          case atStart => exact ⟨rfl, hx⟩
          case round =>
            obtain ⟨rfl, hx⟩ := hrel
            go_wp2_with fail
            go_ret
            exact ⟨rfl, hx⟩
theorem infoWords : (Tryz.prog.info? 240).map (fun i => (i.zero, i.size, i.bytes)) = some (some (.slice none 0 0), 1, 24) := by kernel_rfl
set_option maxRecDepth 100000 in
theorem nilWords (w : World) : Calls Tryz.prog 110 #[.slice none 0 0] w fun e w' => e = .returned (.bool true) ∧ Ext w w' := by
  obtain ⟨i0, hi, hz0, hz1, hz2⟩ := info_parts infoWords
  go_enter Tryz.func110, Tryz.ntmps110
  go_wp2_with fail
  go_loopw [3] (fun i wr => i = .int .i64 0 ∧ Ext w wr) (fun _ _ => 0)
  case atStart => exact ⟨rfl, Below.refl _ _⟩
  case round =>
    obtain ⟨rfl, hx⟩ := hrel
    obtain ⟨wm, hmk, -, hg⟩ := run_make_full (P := Tryz.prog) wr 0 118 240 i0 _ 1 Tryz.underlying118 hi hz0 hz1 .i64 .i64 0 (by rw [hz2]; omega) (by unfold maxLen; omega) (Nat.zero_le _)
    have X := Lib.hid (Ext.trans hx (⟨hg.os, hg.tape, hg.output, hg.size, fun k hk => hg.block k hk (fun e => by cases e)⟩ : Ext wr wm))
    clear hx hg hi hz0 hz1 hz2
    simp only [Int.ofNat_zero] at hmk
    go_wp2_with fail
    go_loopw [6] (fun i wr => i = .int .i64 0 ∧ Ext w wr) (fun _ _ => 0)
    case atStart => exact ⟨rfl, X.out⟩
    case round =>
      obtain ⟨rfl, hx⟩ := hrel
      go_wp2_with fail
      go_loopw [9] (fun i wr => i = .int .i64 0 ∧ Ext w wr) (fun _ _ => 0)
      case atStart => exact ⟨rfl, hx⟩
      case round =>
        obtain ⟨rfl, hx⟩ := hrel
        go_wp2_with fail
        go_loopw [11] (fun i wr => i = .int .i64 0 ∧ Ext w wr) (fun _ _ => 0)
        case atStart => exact ⟨rfl, hx⟩
        case round =>
          obtain ⟨rfl, hx⟩ := hrel
          go_wp2_with fail
          go_loopw [14] (fun i wr => i = .int .i64 0 ∧ Ext w wr) (fun _ _ => 0)
          case atStart => exact ⟨rfl, hx⟩
          case round =>
            obtain ⟨rfl, hx⟩ := hrel
            go_wp2_with fail
            go_ret
            exact ⟨rfl, hx⟩
theorem infoInts : (Tryz.prog.info? 74).map (fun i => (i.zero, i.size, i.bytes)) = some (some (.slice none 0 0), 1, 24) := by kernel_rfl
set_option maxRecDepth 100000 in
theorem nilInts (w : World) : Calls Tryz.prog 111 #[.slice none 0 0] w fun e w' => e = .returned (.bool true) ∧ Ext w w' := by
  obtain ⟨i0, hi, hz0, hz1, hz2⟩ := info_parts infoInts
  go_enter Tryz.func111, Tryz.ntmps111
  go_wp2_with fail
  go_loopw [3] (fun i wr => i = .int .i64 0 ∧ Ext w wr) (fun _ _ => 0)
  case atStart => exact ⟨rfl, Below.refl _ _⟩
  case round =>
    obtain ⟨rfl, hx⟩ := hrel
    obtain ⟨wm, hmk, -, hg⟩ := run_make_full (P := Tryz.prog) wr 0 119 74 i0 _ 1 Tryz.underlying119 hi hz0 hz1 .i64 .i64 0 (by rw [hz2]; omega) (by unfold maxLen; omega) (Nat.zero_le _)
    have X := Lib.hid (Ext.trans hx (⟨hg.os, hg.tape, hg.output, hg.size, fun k hk => hg.block k hk (fun e => by cases e)⟩ : Ext wr wm))
    clear hx hg hi hz0 hz1 hz2
    simp only [Int.ofNat_zero] at hmk
    go_wp2_with fail
    go_loopw [6] (fun i wr => i = .int .i64 0 ∧ Ext w wr) (fun _ _ => 0)
    case atStart => exact ⟨rfl, X.out⟩
    case round =>
      obtain ⟨rfl, hx⟩ := hrel
      go_wp2_with fail
      go_loopw [9] (fun i wr => i = .int .i64 0 ∧ Ext w wr) (fun _ _ => 0)
      case atStart => exact ⟨rfl, hx⟩
      case round =>
        obtain ⟨rfl, hx⟩ := hrel
        go_wp2_with fail
        go_loopw [11] (fun i wr => i = .int .i64 0 ∧ Ext w wr) (fun _ _ => 0)
        case atStart => exact ⟨rfl, hx⟩
        case round =>
          obtain ⟨rfl, hx⟩ := hrel
          go_wp2_with fail
          go_loopw [14] (fun i wr => i = .int .i64 0 ∧ Ext w wr) (fun _ _ => 0)
          case atStart => exact ⟨rfl, hx⟩
          case round =>
            obtain ⟨rfl, hx⟩ := hrel
            go_wp2_with fail
            go_ret
            exact ⟨rfl, hx⟩
theorem infoLongs : (Tryz.prog.info? 242).map (fun i => (i.zero, i.size, i.bytes)) = some (some (.slice none 0 0), 1, 24) := by kernel_rfl
set_option maxRecDepth 100000 in
theorem nilLongs (w : World) : Calls Tryz.prog 112 #[.slice none 0 0] w fun e w' => e = .returned (.bool true) ∧ Ext w w' := by
  obtain ⟨i0, hi, hz0, hz1, hz2⟩ := info_parts infoLongs
  go_enter Tryz.func112, Tryz.ntmps112
  go_wp2_with fail
  go_loopw [3] (fun i wr => i = .int .i64 0 ∧ Ext w wr) (fun _ _ => 0)
  case atStart => exact ⟨rfl, Below.refl _ _⟩
  case round =>
    obtain ⟨rfl, hx⟩ := hrel
    obtain ⟨wm, hmk, -, hg⟩ := run_make_full (P := Tryz.prog) wr 0 120 242 i0 _ 1 Tryz.underlying120 hi hz0 hz1 .i64 .i64 0 (by rw [hz2]; omega) (by unfold maxLen; omega) (Nat.zero_le _)
    have X := Lib.hid (Ext.trans hx (⟨hg.os, hg.tape, hg.output, hg.size, fun k hk => hg.block k hk (fun e => by cases e)⟩ : Ext wr wm))
    clear hx hg hi hz0 hz1 hz2
    simp only [Int.ofNat_zero] at hmk
    go_wp2_with fail
    go_loopw [6] (fun i wr => i = .int .i64 0 ∧ Ext w wr) (fun _ _ => 0)
    case atStart => exact ⟨rfl, X.out⟩
    case round =>
      obtain ⟨rfl, hx⟩ := hrel
      go_wp2_with fail
      go_loopw [9] (fun i wr => i = .int .i64 0 ∧ Ext w wr) (fun _ _ => 0)
      case atStart => exact ⟨rfl, hx⟩
      case round =>
        obtain ⟨rfl, hx⟩ := hrel
        go_wp2_with fail
        go_loopw [11] (fun i wr => i = .int .i64 0 ∧ Ext w wr) (fun _ _ => 0)
        case atStart => exact ⟨rfl, hx⟩
        case round =>
          obtain ⟨rfl, hx⟩ := hrel
          go_wp2_with fail
          go_loopw [14] (fun i wr => i = .int .i64 0 ∧ Ext w wr) (fun _ _ => 0)
          case atStart => exact ⟨rfl, hx⟩
          case round =>
            obtain ⟨rfl, hx⟩ := hrel
            go_wp2_with fail
            go_ret
            exact ⟨rfl, hx⟩
theorem infoTexts : (Tryz.prog.info? 76).map (fun i => (i.zero, i.size, i.bytes)) = some (some (.slice none 0 0), 1, 24) := by kernel_rfl
set_option maxRecDepth 100000 in
theorem nilTexts (w : World) : Calls Tryz.prog 113 #[.slice none 0 0] w fun e w' => e = .returned (.bool true) ∧ Ext w w' := by
  obtain ⟨i0, hi, hz0, hz1, hz2⟩ := info_parts infoTexts
  go_enter Tryz.func113, Tryz.ntmps113
  go_wp2_with fail
  go_loopw [3] (fun i wr => i = .int .i64 0 ∧ Ext w wr) (fun _ _ => 0)
  case atStart => exact ⟨rfl, Below.refl _ _⟩
  case round =>
    obtain ⟨rfl, hx⟩ := hrel
    obtain ⟨wm, hmk, -, hg⟩ := run_make_full (P := Tryz.prog) wr 0 121 76 i0 _ 1 Tryz.underlying121 hi hz0 hz1 .i64 .i64 0 (by rw [hz2]; omega) (by unfold maxLen; omega) (Nat.zero_le _)
    have X := Lib.hid (Ext.trans hx (⟨hg.os, hg.tape, hg.output, hg.size, fun k hk => hg.block k hk (fun e => by cases e)⟩ : Ext wr wm))
    clear hx hg hi hz0 hz1 hz2
    simp only [Int.ofNat_zero] at hmk
    go_wp2_with fail
    go_loopw [6] (fun i wr => i = .int .i64 0 ∧ Ext w wr) (fun _ _ => 0)
    case atStart => exact ⟨rfl, X.out⟩
    case round =>
      obtain ⟨rfl, hx⟩ := hrel
      go_wp2_with fail
      go_loopw [9] (fun i wr => i = .int .i64 0 ∧ Ext w wr) (fun _ _ => 0)
      case atStart => exact ⟨rfl, hx⟩
      case round =>
        obtain ⟨rfl, hx⟩ := hrel
        go_wp2_with fail
        go_loopw [11] (fun i wr => i = .int .i64 0 ∧ Ext w wr) (fun _ _ => 0)
        case atStart => exact ⟨rfl, hx⟩
        case round =>
          obtain ⟨rfl, hx⟩ := hrel
          go_wp2_with fail
          go_loopw [14] (fun i wr => i = .int .i64 0 ∧ Ext w wr) (fun _ _ => 0)
          case atStart => exact ⟨rfl, hx⟩
          case round =>
            obtain ⟨rfl, hx⟩ := hrel
            go_wp2_with fail
            go_ret
            exact ⟨rfl, hx⟩
theorem infoBytes : (Tryz.prog.info? 89).map (fun i => (i.zero, i.size, i.bytes)) = some (some (.slice none 0 0), 1, 24) := by kernel_rfl
set_option maxRecDepth 100000 in
theorem nilBytes (w : World) : Calls Tryz.prog 114 #[.slice none 0 0] w fun e w' => e = .returned (.bool true) ∧ Ext w w' := by
  obtain ⟨i0, hi, hz0, hz1, hz2⟩ := info_parts infoBytes
  go_enter Tryz.func114, Tryz.ntmps114
  go_wp2_with fail
  go_loopw [3] (fun i wr => i = .int .i64 0 ∧ Ext w wr) (fun _ _ => 0)
  case atStart => exact ⟨rfl, Below.refl _ _⟩
  case round =>
    obtain ⟨rfl, hx⟩ := hrel
    obtain ⟨wm, hmk, -, hg⟩ := run_make_full (P := Tryz.prog) wr 0 122 89 i0 _ 1 Tryz.underlying122 hi hz0 hz1 .i64 .i64 0 (by rw [hz2]; omega) (by unfold maxLen; omega) (Nat.zero_le _)
    have X := Lib.hid (Ext.trans hx (⟨hg.os, hg.tape, hg.output, hg.size, fun k hk => hg.block k hk (fun e => by cases e)⟩ : Ext wr wm))
    clear hx hg hi hz0 hz1 hz2
    simp only [Int.ofNat_zero] at hmk
    go_wp2_with fail
    go_loopw [6] (fun i wr => i = .int .i64 0 ∧ Ext w wr) (fun _ _ => 0)
    case atStart => exact ⟨rfl, X.out⟩
    case round =>
      obtain ⟨rfl, hx⟩ := hrel
      go_wp2_with fail
      go_loopw [9] (fun i wr => i = .int .i64 0 ∧ Ext w wr) (fun _ _ => 0)
      case atStart => exact ⟨rfl, hx⟩
      case round =>
        obtain ⟨rfl, hx⟩ := hrel
        go_wp2_with fail
        go_loopw [11] (fun i wr => i = .int .i64 0 ∧ Ext w wr) (fun _ _ => 0)
        case atStart => exact ⟨rfl, hx⟩
        case round =>
          obtain ⟨rfl, hx⟩ := hrel
          go_wp2_with fail
          go_loopw [14] (fun i wr => i = .int .i64 0 ∧ Ext w wr) (fun _ _ => 0)
          case atStart => exact ⟨rfl, hx⟩
          case round =>
            obtain ⟨rfl, hx⟩ := hrel
            go_wp2_with fail
            go_ret
            exact ⟨rfl, hx⟩
theorem infoTruths : (Tryz.prog.info? 244).map (fun i => (i.zero, i.size, i.bytes)) = some (some (.slice none 0 0), 1, 24) := by kernel_rfl
set_option maxRecDepth 100000 in
theorem nilTruths (w : World) : Calls Tryz.prog 115 #[.slice none 0 0] w fun e w' => e = .returned (.bool true) ∧ Ext w w' := by
  obtain ⟨i0, hi, hz0, hz1, hz2⟩ := info_parts infoTruths
  go_enter Tryz.func115, Tryz.ntmps115
  go_wp2_with fail
  go_loopw [3] (fun i wr => i = .int .i64 0 ∧ Ext w wr) (fun _ _ => 0)
  case atStart => exact ⟨rfl, Below.refl _ _⟩
  case round =>
    obtain ⟨rfl, hx⟩ := hrel
    obtain ⟨wm, hmk, -, hg⟩ := run_make_full (P := Tryz.prog) wr 0 123 244 i0 _ 1 Tryz.underlying123 hi hz0 hz1 .i64 .i64 0 (by rw [hz2]; omega) (by unfold maxLen; omega) (Nat.zero_le _)
    have X := Lib.hid (Ext.trans hx (⟨hg.os, hg.tape, hg.output, hg.size, fun k hk => hg.block k hk (fun e => by cases e)⟩ : Ext wr wm))
    clear hx hg hi hz0 hz1 hz2
    simp only [Int.ofNat_zero] at hmk
    go_wp2_with fail
    go_loopw [6] (fun i wr => i = .int .i64 0 ∧ Ext w wr) (fun _ _ => 0)
    case atStart => exact ⟨rfl, X.out⟩
    case round =>
      obtain ⟨rfl, hx⟩ := hrel
      go_wp2_with fail
      go_loopw [9] (fun i wr => i = .int .i64 0 ∧ Ext w wr) (fun _ _ => 0)
      case atStart => exact ⟨rfl, hx⟩
      case round =>
        obtain ⟨rfl, hx⟩ := hrel
        go_wp2_with fail
        go_loopw [11] (fun i wr => i = .int .i64 0 ∧ Ext w wr) (fun _ _ => 0)
        case atStart => exact ⟨rfl, hx⟩
        case round =>
          obtain ⟨rfl, hx⟩ := hrel
          go_wp2_with fail
          go_loopw [14] (fun i wr => i = .int .i64 0 ∧ Ext w wr) (fun _ _ => 0)
          case atStart => exact ⟨rfl, hx⟩
          case round =>
            obtain ⟨rfl, hx⟩ := hrel
            go_wp2_with fail
            go_ret
            exact ⟨rfl, hx⟩
theorem infoSpans : (Tryz.prog.info? 245).map (fun i => (i.zero, i.size, i.bytes)) = some (some (.slice none 0 0), 1, 24) := by kernel_rfl
set_option maxRecDepth 100000 in
theorem nilSpans (w : World) : Calls Tryz.prog 116 #[.slice none 0 0] w fun e w' => e = .returned (.bool true) ∧ Ext w w' := by
  obtain ⟨i0, hi, hz0, hz1, hz2⟩ := info_parts infoSpans
  go_enter Tryz.func116, Tryz.ntmps116
  go_wp2_with fail
  go_loopw [3] (fun i wr => i = .int .i64 0 ∧ Ext w wr) (fun _ _ => 0)
  case atStart => exact ⟨rfl, Below.refl _ _⟩
  case round =>
    obtain ⟨rfl, hx⟩ := hrel
    obtain ⟨wm, hmk, -, hg⟩ := run_make_full (P := Tryz.prog) wr 0 124 245 i0 _ 1 Tryz.underlying124 hi hz0 hz1 .i64 .i64 0 (by rw [hz2]; omega) (by unfold maxLen; omega) (Nat.zero_le _)
    have X := Lib.hid (Ext.trans hx (⟨hg.os, hg.tape, hg.output, hg.size, fun k hk => hg.block k hk (fun e => by cases e)⟩ : Ext wr wm))
    clear hx hg hi hz0 hz1 hz2
    simp only [Int.ofNat_zero] at hmk
    go_wp2_with fail
    go_loopw [6] (fun i wr => i = .int .i64 0 ∧ Ext w wr) (fun _ _ => 0)
    case atStart => exact ⟨rfl, X.out⟩
    case round =>
      obtain ⟨rfl, hx⟩ := hrel
      go_wp2_with fail
      go_loopw [9] (fun i wr => i = .int .i64 0 ∧ Ext w wr) (fun _ _ => 0)
      case atStart => exact ⟨rfl, hx⟩
      case round =>
        obtain ⟨rfl, hx⟩ := hrel
        go_wp2_with fail
        go_loopw [11] (fun i wr => i = .int .i64 0 ∧ Ext w wr) (fun _ _ => 0)
        case atStart => exact ⟨rfl, hx⟩
        case round =>
          obtain ⟨rfl, hx⟩ := hrel
          go_wp2_with fail
          go_loopw [14] (fun i wr => i = .int .i64 0 ∧ Ext w wr) (fun _ _ => 0)
          case atStart => exact ⟨rfl, hx⟩
          case round =>
            obtain ⟨rfl, hx⟩ := hrel
            go_wp2_with fail
            go_ret
            exact ⟨rfl, hx⟩
theorem infoShareRows : (Tryz.prog.info? 86).map (fun i => (i.zero, i.size, i.bytes)) = some (some (.slice none 0 0), 1, 24) := by kernel_rfl
set_option maxRecDepth 100000 in
theorem nilShareRows (w : World) : Calls Tryz.prog 117 #[.slice none 0 0] w fun e w' => e = .returned (.bool true) ∧ Ext w w' := by
  obtain ⟨i0, hi, hz0, hz1, hz2⟩ := info_parts infoShareRows
  go_enter Tryz.func117, Tryz.ntmps117
  go_wp2_with fail
  go_loopw [3] (fun i wr => i = .int .i64 0 ∧ Ext w wr) (fun _ _ => 0)
  case atStart => exact ⟨rfl, Below.refl _ _⟩
  case round =>
    obtain ⟨rfl, hx⟩ := hrel
    obtain ⟨wm, hmk, -, hg⟩ := run_make_full (P := Tryz.prog) wr 0 125 86 i0 _ 1 Tryz.underlying125 hi hz0 hz1 .i64 .i64 0 (by rw [hz2]; omega) (by unfold maxLen; omega) (Nat.zero_le _)
    have X := Lib.hid (Ext.trans hx (⟨hg.os, hg.tape, hg.output, hg.size, fun k hk => hg.block k hk (fun e => by cases e)⟩ : Ext wr wm))
    clear hx hg hi hz0 hz1 hz2
    simp only [Int.ofNat_zero] at hmk
    go_wp2_with fail
    go_loopw [6] (fun i wr => i = .int .i64 0 ∧ Ext w wr) (fun _ _ => 0)
    case atStart => exact ⟨rfl, X.out⟩
    case round =>
      obtain ⟨rfl, hx⟩ := hrel
      go_wp2_with fail
      go_loopw [9] (fun i wr => i = .int .i64 0 ∧ Ext w wr) (fun _ _ => 0)
      case atStart => exact ⟨rfl, hx⟩
      case round =>
        obtain ⟨rfl, hx⟩ := hrel
        go_wp2_with fail
        go_loopw [11] (fun i wr => i = .int .i64 0 ∧ Ext w wr) (fun _ _ => 0)
        case atStart => exact ⟨rfl, hx⟩
        case round =>
          obtain ⟨rfl, hx⟩ := hrel
          go_wp2_with fail
          go_loopw [14] (fun i wr => i = .int .i64 0 ∧ Ext w wr) (fun _ _ => 0)
          case atStart => exact ⟨rfl, hx⟩
          case round =>
            obtain ⟨rfl, hx⟩ := hrel
            go_wp2_with fail
            go_ret
            exact ⟨rfl, hx⟩
theorem infoSharesRows : (Tryz.prog.info? 250).map (fun i => (i.zero, i.size, i.bytes)) = some (some (.slice none 0 0), 1, 24) := by kernel_rfl
set_option maxRecDepth 100000 in
theorem nilSharesRows (w : World) : Calls Tryz.prog 118 #[.slice none 0 0] w fun e w' => e = .returned (.bool true) ∧ Ext w w' := by
  obtain ⟨i0, hi, hz0, hz1, hz2⟩ := info_parts infoSharesRows
  go_enter Tryz.func118, Tryz.ntmps118
  go_wp2_with fail
  go_loopw [3] (fun i wr => i = .int .i64 0 ∧ Ext w wr) (fun _ _ => 0)
  case atStart => exact ⟨rfl, Below.refl _ _⟩
  case round =>
    obtain ⟨rfl, hx⟩ := hrel
    obtain ⟨wm, hmk, -, hg⟩ := run_make_full (P := Tryz.prog) wr 0 126 250 i0 _ 1 Tryz.underlying126 hi hz0 hz1 .i64 .i64 0 (by rw [hz2]; omega) (by unfold maxLen; omega) (Nat.zero_le _)
    have X := Lib.hid (Ext.trans hx (⟨hg.os, hg.tape, hg.output, hg.size, fun k hk => hg.block k hk (fun e => by cases e)⟩ : Ext wr wm))
    clear hx hg hi hz0 hz1 hz2
    simp only [Int.ofNat_zero] at hmk
    go_wp2_with fail
    go_loopw [6] (fun i wr => i = .int .i64 0 ∧ Ext w wr) (fun _ _ => 0)
    case atStart => exact ⟨rfl, X.out⟩
    case round =>
      obtain ⟨rfl, hx⟩ := hrel
      go_wp2_with fail
      go_loopw [9] (fun i wr => i = .int .i64 0 ∧ Ext w wr) (fun _ _ => 0)
      case atStart => exact ⟨rfl, hx⟩
      case round =>
        obtain ⟨rfl, hx⟩ := hrel
        go_wp2_with fail
        go_loopw [11] (fun i wr => i = .int .i64 0 ∧ Ext w wr) (fun _ _ => 0)
        case atStart => exact ⟨rfl, hx⟩
        case round =>
          obtain ⟨rfl, hx⟩ := hrel
          go_wp2_with fail
          go_loopw [14] (fun i wr => i = .int .i64 0 ∧ Ext w wr) (fun _ _ => 0)
          case atStart => exact ⟨rfl, hx⟩
          case round =>
            obtain ⟨rfl, hx⟩ := hrel
            go_wp2_with fail
            go_ret
            exact ⟨rfl, hx⟩
theorem infoNames : (Tryz.prog.info? 253).map (fun i => (i.zero, i.size, i.bytes)) = some (some (.slice none 0 0), 1, 24) := by kernel_rfl
set_option maxRecDepth 100000 in
theorem nilNames (w : World) : Calls Tryz.prog 119 #[.slice none 0 0] w fun e w' => e = .returned (.bool true) ∧ Ext w w' := by
  obtain ⟨i0, hi, hz0, hz1, hz2⟩ := info_parts infoNames
  go_enter Tryz.func119, Tryz.ntmps119
  go_wp2_with fail
  go_loopw [3] (fun i wr => i = .int .i64 0 ∧ Ext w wr) (fun _ _ => 0)
  case atStart => exact ⟨rfl, Below.refl _ _⟩
  case round =>
    obtain ⟨rfl, hx⟩ := hrel
    obtain ⟨wm, hmk, -, hg⟩ := run_make_full (P := Tryz.prog) wr 0 127 253 i0 _ 1 Tryz.underlying127 hi hz0 hz1 .i64 .i64 0 (by rw [hz2]; omega) (by unfold maxLen; omega) (Nat.zero_le _)
    have X := Lib.hid (Ext.trans hx (⟨hg.os, hg.tape, hg.output, hg.size, fun k hk => hg.block k hk (fun e => by cases e)⟩ : Ext wr wm))
    clear hx hg hi hz0 hz1 hz2
    simp only [Int.ofNat_zero] at hmk
    go_wp2_with fail
    go_loopw [6] (fun i wr => i = .int .i64 0 ∧ Ext w wr) (fun _ _ => 0)
    case atStart => exact ⟨rfl, X.out⟩
    case round =>
      obtain ⟨rfl, hx⟩ := hrel
      go_wp2_with fail
      go_loopw [9] (fun i wr => i = .int .i64 0 ∧ Ext w wr) (fun _ _ => 0)
      case atStart => exact ⟨rfl, hx⟩
      case round =>
        obtain ⟨rfl, hx⟩ := hrel
        go_wp2_with fail
        go_loopw [11] (fun i wr => i = .int .i64 0 ∧ Ext w wr) (fun _ _ => 0)
        case atStart => exact ⟨rfl, hx⟩
        case round =>
          obtain ⟨rfl, hx⟩ := hrel
          go_wp2_with fail
          go_loopw [14] (fun i wr => i = .int .i64 0 ∧ Ext w wr) (fun _ _ => 0)
          case atStart => exact ⟨rfl, hx⟩
          case round =>
            obtain ⟨rfl, hx⟩ := hrel
            go_wp2_with fail
            go_ret
            exact ⟨rfl, hx⟩
theorem infoActs : (Tryz.prog.info? 35).map (fun i => (i.zero, i.size, i.bytes)) = some (some (.slice none 0 0), 1, 24) := by kernel_rfl
set_option maxRecDepth 100000 in
theorem nilActs (w : World) : Calls Tryz.prog 120 #[.slice none 0 0] w fun e w' => e = .returned (.bool true) ∧ Ext w w' := by
  obtain ⟨i0, hi, hz0, hz1, hz2⟩ := info_parts infoActs
  go_enter Tryz.func120, Tryz.ntmps120
  go_wp2_with fail
  go_loopw [3] (fun i wr => i = .int .i64 0 ∧ Ext w wr) (fun _ _ => 0)
  case atStart => exact ⟨rfl, Below.refl _ _⟩
  case round =>
    obtain ⟨rfl, hx⟩ := hrel
    obtain ⟨wm, hmk, -, hg⟩ := run_make_full (P := Tryz.prog) wr 0 71 35 i0 _ 1 Tryz.underlying71 hi hz0 hz1 .i64 .i64 0 (by rw [hz2]; omega) (by unfold maxLen; omega) (Nat.zero_le _)
    have X := Lib.hid (Ext.trans hx (⟨hg.os, hg.tape, hg.output, hg.size, fun k hk => hg.block k hk (fun e => by cases e)⟩ : Ext wr wm))
    clear hx hg hi hz0 hz1 hz2
    simp only [Int.ofNat_zero] at hmk
    go_wp2_with fail
    go_loopw [6] (fun i wr => i = .int .i64 0 ∧ Ext w wr) (fun _ _ => 0)
    case atStart => exact ⟨rfl, X.out⟩
    case round =>
      obtain ⟨rfl, hx⟩ := hrel
      go_wp2_with fail
      go_loopw [9] (fun i wr => i = .int .i64 0 ∧ Ext w wr) (fun _ _ => 0)
      case atStart => exact ⟨rfl, hx⟩
      case round =>
        obtain ⟨rfl, hx⟩ := hrel
        go_wp2_with fail
        go_loopw [11] (fun i wr => i = .int .i64 0 ∧ Ext w wr) (fun _ _ => 0)
        case atStart => exact ⟨rfl, hx⟩
        case round =>
          obtain ⟨rfl, hx⟩ := hrel
          go_wp2_with fail
          go_loopw [14] (fun i wr => i = .int .i64 0 ∧ Ext w wr) (fun _ _ => 0)
          case atStart => exact ⟨rfl, hx⟩
          case round =>
            obtain ⟨rfl, hx⟩ := hrel
            go_wp2_with fail
            go_ret
            exact ⟨rfl, hx⟩
theorem infoReads : (Tryz.prog.info? 36).map (fun i => (i.zero, i.size, i.bytes)) = some (some (.slice none 0 0), 1, 24) := by kernel_rfl
set_option maxRecDepth 100000 in
theorem nilReads (w : World) : Calls Tryz.prog 121 #[.slice none 0 0] w fun e w' => e = .returned (.bool true) ∧ Ext w w' := by
  obtain ⟨i0, hi, hz0, hz1, hz2⟩ := info_parts infoReads
  go_enter Tryz.func121, Tryz.ntmps121
  go_wp2_with fail
  go_loopw [3] (fun i wr => i = .int .i64 0 ∧ Ext w wr) (fun _ _ => 0)
  case atStart => exact ⟨rfl, Below.refl _ _⟩
  case round =>
    obtain ⟨rfl, hx⟩ := hrel
    obtain ⟨wm, hmk, -, hg⟩ := run_make_full (P := Tryz.prog) wr 0 95 36 i0 _ 1 Tryz.underlying95 hi hz0 hz1 .i64 .i64 0 (by rw [hz2]; omega) (by unfold maxLen; omega) (Nat.zero_le _)
    have X := Lib.hid (Ext.trans hx (⟨hg.os, hg.tape, hg.output, hg.size, fun k hk => hg.block k hk (fun e => by cases e)⟩ : Ext wr wm))
    clear hx hg hi hz0 hz1 hz2
    simp only [Int.ofNat_zero] at hmk
    go_wp2_with fail
    go_loopw [6] (fun i wr => i = .int .i64 0 ∧ Ext w wr) (fun _ _ => 0)
    case atStart => exact ⟨rfl, X.out⟩
    case round =>
      obtain ⟨rfl, hx⟩ := hrel
      go_wp2_with fail
      go_loopw [9] (fun i wr => i = .int .i64 0 ∧ Ext w wr) (fun _ _ => 0)
      case atStart => exact ⟨rfl, hx⟩
      case round =>
        obtain ⟨rfl, hx⟩ := hrel
        go_wp2_with fail
        go_loopw [11] (fun i wr => i = .int .i64 0 ∧ Ext w wr) (fun _ _ => 0)
        case atStart => exact ⟨rfl, hx⟩
        case round =>
          obtain ⟨rfl, hx⟩ := hrel
          go_wp2_with fail
          go_loopw [14] (fun i wr => i = .int .i64 0 ∧ Ext w wr) (fun _ _ => 0)
          case atStart => exact ⟨rfl, hx⟩
          case round =>
            obtain ⟨rfl, hx⟩ := hrel
            go_wp2_with fail
            go_ret
            exact ⟨rfl, hx⟩
theorem infoLines : (Tryz.prog.info? 32).map (fun i => (i.zero, i.size, i.bytes)) = some (some (.slice none 0 0), 1, 24) := by kernel_rfl
set_option maxRecDepth 100000 in
theorem nilLines (w : World) : Calls Tryz.prog 122 #[.slice none 0 0] w fun e w' => e = .returned (.bool true) ∧ Ext w w' := by
  obtain ⟨i0, hi, hz0, hz1, hz2⟩ := info_parts infoLines
  go_enter Tryz.func122, Tryz.ntmps122
  go_wp2_with fail
  go_loopw [3] (fun i wr => i = .int .i64 0 ∧ Ext w wr) (fun _ _ => 0)
  case atStart => exact ⟨rfl, Below.refl _ _⟩
  case round =>
    obtain ⟨rfl, hx⟩ := hrel
    obtain ⟨wm, hmk, -, hg⟩ := run_make_full (P := Tryz.prog) wr 0 48 32 i0 _ 1 Tryz.underlying48 hi hz0 hz1 .i64 .i64 0 (by rw [hz2]; omega) (by unfold maxLen; omega) (Nat.zero_le _)
    have X := Lib.hid (Ext.trans hx (⟨hg.os, hg.tape, hg.output, hg.size, fun k hk => hg.block k hk (fun e => by cases e)⟩ : Ext wr wm))
    clear hx hg hi hz0 hz1 hz2
    simp only [Int.ofNat_zero] at hmk
    go_wp2_with fail
    go_loopw [6] (fun i wr => i = .int .i64 0 ∧ Ext w wr) (fun _ _ => 0)
    case atStart => exact ⟨rfl, X.out⟩
    case round =>
      obtain ⟨rfl, hx⟩ := hrel
      go_wp2_with fail
      go_loopw [9] (fun i wr => i = .int .i64 0 ∧ Ext w wr) (fun _ _ => 0)
      case atStart => exact ⟨rfl, hx⟩
      case round =>
        obtain ⟨rfl, hx⟩ := hrel
        go_wp2_with fail
        go_loopw [11] (fun i wr => i = .int .i64 0 ∧ Ext w wr) (fun _ _ => 0)
        case atStart => exact ⟨rfl, hx⟩
        case round =>
          obtain ⟨rfl, hx⟩ := hrel
          go_wp2_with fail
          go_loopw [14] (fun i wr => i = .int .i64 0 ∧ Ext w wr) (fun _ _ => 0)
          case atStart => exact ⟨rfl, hx⟩
          case round =>
            obtain ⟨rfl, hx⟩ := hrel
            go_wp2_with fail
            go_ret
            exact ⟨rfl, hx⟩
theorem infoHolds : (Tryz.prog.info? 255).map (fun i => (i.zero, i.size, i.bytes)) = some (some (.slice none 0 0), 1, 24) := by kernel_rfl
set_option maxRecDepth 100000 in
theorem nilHolds (w : World) : Calls Tryz.prog 123 #[.slice none 0 0] w fun e w' => e = .returned (.bool true) ∧ Ext w w' := by
  obtain ⟨i0, hi, hz0, hz1, hz2⟩ := info_parts infoHolds
  go_enter Tryz.func123, Tryz.ntmps123
  go_wp2_with fail
  go_loopw [3] (fun i wr => i = .int .i64 0 ∧ Ext w wr) (fun _ _ => 0)
  case atStart => exact ⟨rfl, Below.refl _ _⟩
  case round =>
    obtain ⟨rfl, hx⟩ := hrel
    obtain ⟨wm, hmk, -, hg⟩ := run_make_full (P := Tryz.prog) wr 0 128 255 i0 _ 1 Tryz.underlying128 hi hz0 hz1 .i64 .i64 0 (by rw [hz2]; omega) (by unfold maxLen; omega) (Nat.zero_le _)
    have X := Lib.hid (Ext.trans hx (⟨hg.os, hg.tape, hg.output, hg.size, fun k hk => hg.block k hk (fun e => by cases e)⟩ : Ext wr wm))
    clear hx hg hi hz0 hz1 hz2
    simp only [Int.ofNat_zero] at hmk
    go_wp2_with fail
    go_loopw [6] (fun i wr => i = .int .i64 0 ∧ Ext w wr) (fun _ _ => 0)
    case atStart => exact ⟨rfl, X.out⟩
    case round =>
      obtain ⟨rfl, hx⟩ := hrel
      go_wp2_with fail
      go_loopw [9] (fun i wr => i = .int .i64 0 ∧ Ext w wr) (fun _ _ => 0)
      case atStart => exact ⟨rfl, hx⟩
      case round =>
        obtain ⟨rfl, hx⟩ := hrel
        go_wp2_with fail
        go_loopw [11] (fun i wr => i = .int .i64 0 ∧ Ext w wr) (fun _ _ => 0)
        case atStart => exact ⟨rfl, hx⟩
        case round =>
          obtain ⟨rfl, hx⟩ := hrel
          go_wp2_with fail
          go_loopw [14] (fun i wr => i = .int .i64 0 ∧ Ext w wr) (fun _ _ => 0)
          case atStart => exact ⟨rfl, hx⟩
          case round =>
            obtain ⟨rfl, hx⟩ := hrel
            go_wp2_with fail
            go_ret
            exact ⟨rfl, hx⟩
theorem infoConfigs : (Tryz.prog.info? 260).map (fun i => (i.zero, i.size, i.bytes)) = some (some (.slice none 0 0), 1, 24) := by kernel_rfl
set_option maxRecDepth 100000 in
theorem nilConfigs (w : World) : Calls Tryz.prog 124 #[.slice none 0 0] w fun e w' => e = .returned (.bool true) ∧ Ext w w' := by
  obtain ⟨i0, hi, hz0, hz1, hz2⟩ := info_parts infoConfigs
  go_enter Tryz.func124, Tryz.ntmps124
  go_wp2_with fail
  go_loopw [3] (fun i wr => i = .int .i64 0 ∧ Ext w wr) (fun _ _ => 0)
  case atStart => exact ⟨rfl, Below.refl _ _⟩
  case round =>
    obtain ⟨rfl, hx⟩ := hrel
    obtain ⟨wm, hmk, -, hg⟩ := run_make_full (P := Tryz.prog) wr 0 129 260 i0 _ 1 Tryz.underlying129 hi hz0 hz1 .i64 .i64 0 (by rw [hz2]; omega) (by unfold maxLen; omega) (Nat.zero_le _)
    have X := Lib.hid (Ext.trans hx (⟨hg.os, hg.tape, hg.output, hg.size, fun k hk => hg.block k hk (fun e => by cases e)⟩ : Ext wr wm))
    clear hx hg hi hz0 hz1 hz2
    simp only [Int.ofNat_zero] at hmk
    go_wp2_with fail
    go_loopw [6] (fun i wr => i = .int .i64 0 ∧ Ext w wr) (fun _ _ => 0)
    case atStart => exact ⟨rfl, X.out⟩
    case round =>
      obtain ⟨rfl, hx⟩ := hrel
      go_wp2_with fail
      go_loopw [9] (fun i wr => i = .int .i64 0 ∧ Ext w wr) (fun _ _ => 0)
      case atStart => exact ⟨rfl, hx⟩
      case round =>
        obtain ⟨rfl, hx⟩ := hrel
        go_wp2_with fail
        go_loopw [11] (fun i wr => i = .int .i64 0 ∧ Ext w wr) (fun _ _ => 0)
        case atStart => exact ⟨rfl, hx⟩
        case round =>
          obtain ⟨rfl, hx⟩ := hrel
          go_wp2_with fail
          go_loopw [14] (fun i wr => i = .int .i64 0 ∧ Ext w wr) (fun _ _ => 0)
          case atStart => exact ⟨rfl, hx⟩
          case round =>
            obtain ⟨rfl, hx⟩ := hrel
            go_wp2_with fail
            go_ret
            exact ⟨rfl, hx⟩
theorem infoEntries : (Tryz.prog.info? 265).map (fun i => (i.zero, i.size, i.bytes)) = some (some (.slice none 0 0), 1, 24) := by kernel_rfl
set_option maxRecDepth 100000 in
theorem nilEntries (w : World) : Calls Tryz.prog 125 #[.slice none 0 0] w fun e w' => e = .returned (.bool true) ∧ Ext w w' := by
  obtain ⟨i0, hi, hz0, hz1, hz2⟩ := info_parts infoEntries
  go_enter Tryz.func125, Tryz.ntmps125
  go_wp2_with fail
  go_loopw [3] (fun i wr => i = .int .i64 0 ∧ Ext w wr) (fun _ _ => 0)
  case atStart => exact ⟨rfl, Below.refl _ _⟩
  case round =>
    obtain ⟨rfl, hx⟩ := hrel
    obtain ⟨wm, hmk, -, hg⟩ := run_make_full (P := Tryz.prog) wr 0 130 265 i0 _ 1 Tryz.underlying130 hi hz0 hz1 .i64 .i64 0 (by rw [hz2]; omega) (by unfold maxLen; omega) (Nat.zero_le _)
    have X := Lib.hid (Ext.trans hx (⟨hg.os, hg.tape, hg.output, hg.size, fun k hk => hg.block k hk (fun e => by cases e)⟩ : Ext wr wm))
    clear hx hg hi hz0 hz1 hz2
    simp only [Int.ofNat_zero] at hmk
    go_wp2_with fail
    go_loopw [6] (fun i wr => i = .int .i64 0 ∧ Ext w wr) (fun _ _ => 0)
    case atStart => exact ⟨rfl, X.out⟩
    case round =>
      obtain ⟨rfl, hx⟩ := hrel
      go_wp2_with fail
      go_loopw [9] (fun i wr => i = .int .i64 0 ∧ Ext w wr) (fun _ _ => 0)
      case atStart => exact ⟨rfl, hx⟩
      case round =>
        obtain ⟨rfl, hx⟩ := hrel
        go_wp2_with fail
        go_loopw [11] (fun i wr => i = .int .i64 0 ∧ Ext w wr) (fun _ _ => 0)
        case atStart => exact ⟨rfl, hx⟩
        case round =>
          obtain ⟨rfl, hx⟩ := hrel
          go_wp2_with fail
          go_loopw [14] (fun i wr => i = .int .i64 0 ∧ Ext w wr) (fun _ _ => 0)
          case atStart => exact ⟨rfl, hx⟩
          case round =>
            obtain ⟨rfl, hx⟩ := hrel
            go_wp2_with fail
            go_ret
            exact ⟨rfl, hx⟩
theorem infoBases : (Tryz.prog.info? 271).map (fun i => (i.zero, i.size, i.bytes)) = some (some (.slice none 0 0), 1, 24) := by kernel_rfl
set_option maxRecDepth 100000 in
theorem nilBases (w : World) : Calls Tryz.prog 126 #[.slice none 0 0] w fun e w' => e = .returned (.bool true) ∧ Ext w w' := by
  obtain ⟨i0, hi, hz0, hz1, hz2⟩ := info_parts infoBases
  go_enter Tryz.func126, Tryz.ntmps126
  go_wp2_with fail
  go_loopw [3] (fun i wr => i = .int .i64 0 ∧ Ext w wr) (fun _ _ => 0)
  case atStart => exact ⟨rfl, Below.refl _ _⟩
  case round =>
    obtain ⟨rfl, hx⟩ := hrel
    obtain ⟨wm, hmk, -, hg⟩ := run_make_full (P := Tryz.prog) wr 0 131 271 i0 _ 1 Tryz.underlying131 hi hz0 hz1 .i64 .i64 0 (by rw [hz2]; omega) (by unfold maxLen; omega) (Nat.zero_le _)
    have X := Lib.hid (Ext.trans hx (⟨hg.os, hg.tape, hg.output, hg.size, fun k hk => hg.block k hk (fun e => by cases e)⟩ : Ext wr wm))
    clear hx hg hi hz0 hz1 hz2
    simp only [Int.ofNat_zero] at hmk
    go_wp2_with fail
    go_loopw [6] (fun i wr => i = .int .i64 0 ∧ Ext w wr) (fun _ _ => 0)
    case atStart => exact ⟨rfl, X.out⟩
    case round =>
      obtain ⟨rfl, hx⟩ := hrel
      go_wp2_with fail
      go_loopw [9] (fun i wr => i = .int .i64 0 ∧ Ext w wr) (fun _ _ => 0)
      case atStart => exact ⟨rfl, hx⟩
      case round =>
        obtain ⟨rfl, hx⟩ := hrel
        go_wp2_with fail
        go_loopw [11] (fun i wr => i = .int .i64 0 ∧ Ext w wr) (fun _ _ => 0)
        case atStart => exact ⟨rfl, hx⟩
        case round =>
          obtain ⟨rfl, hx⟩ := hrel
          go_wp2_with fail
          go_loopw [14] (fun i wr => i = .int .i64 0 ∧ Ext w wr) (fun _ _ => 0)
          case atStart => exact ⟨rfl, hx⟩
          case round =>
            obtain ⟨rfl, hx⟩ := hrel
            go_wp2_with fail
            go_ret
            exact ⟨rfl, hx⟩
theorem infoImages : (Tryz.prog.info? 276).map (fun i => (i.zero, i.size, i.bytes)) = some (some (.slice none 0 0), 1, 24) := by kernel_rfl
set_option maxRecDepth 100000 in
theorem nilImages (w : World) : Calls Tryz.prog 127 #[.slice none 0 0] w fun e w' => e = .returned (.bool true) ∧ Ext w w' := by
  obtain ⟨i0, hi, hz0, hz1, hz2⟩ := info_parts infoImages
  go_enter Tryz.func127, Tryz.ntmps127
  go_wp2_with fail
  go_loopw [3] (fun i wr => i = .int .i64 0 ∧ Ext w wr) (fun _ _ => 0)
  case atStart => exact ⟨rfl, Below.refl _ _⟩
  case round =>
    obtain ⟨rfl, hx⟩ := hrel
    obtain ⟨wm, hmk, -, hg⟩ := run_make_full (P := Tryz.prog) wr 0 132 276 i0 _ 1 Tryz.underlying132 hi hz0 hz1 .i64 .i64 0 (by rw [hz2]; omega) (by unfold maxLen; omega) (Nat.zero_le _)
    have X := Lib.hid (Ext.trans hx (⟨hg.os, hg.tape, hg.output, hg.size, fun k hk => hg.block k hk (fun e => by cases e)⟩ : Ext wr wm))
    clear hx hg hi hz0 hz1 hz2
    simp only [Int.ofNat_zero] at hmk
    go_wp2_with fail
    go_loopw [6] (fun i wr => i = .int .i64 0 ∧ Ext w wr) (fun _ _ => 0)
    case atStart => exact ⟨rfl, X.out⟩
    case round =>
      obtain ⟨rfl, hx⟩ := hrel
      go_wp2_with fail
      go_loopw [9] (fun i wr => i = .int .i64 0 ∧ Ext w wr) (fun _ _ => 0)
      case atStart => exact ⟨rfl, hx⟩
      case round =>
        obtain ⟨rfl, hx⟩ := hrel
        go_wp2_with fail
        go_loopw [11] (fun i wr => i = .int .i64 0 ∧ Ext w wr) (fun _ _ => 0)
        case atStart => exact ⟨rfl, hx⟩
        case round =>
          obtain ⟨rfl, hx⟩ := hrel
          go_wp2_with fail
          go_loopw [14] (fun i wr => i = .int .i64 0 ∧ Ext w wr) (fun _ _ => 0)
          case atStart => exact ⟨rfl, hx⟩
          case round =>
            obtain ⟨rfl, hx⟩ := hrel
            go_wp2_with fail
            go_ret
            exact ⟨rfl, hx⟩
theorem infoLetters : (Tryz.prog.info? 281).map (fun i => (i.zero, i.size, i.bytes)) = some (some (.slice none 0 0), 1, 24) := by kernel_rfl
set_option maxRecDepth 100000 in
theorem nilLetters (w : World) : Calls Tryz.prog 128 #[.slice none 0 0] w fun e w' => e = .returned (.bool true) ∧ Ext w w' := by
  obtain ⟨i0, hi, hz0, hz1, hz2⟩ := info_parts infoLetters
  go_enter Tryz.func128, Tryz.ntmps128
  go_wp2_with fail
  go_loopw [3] (fun i wr => i = .int .i64 0 ∧ Ext w wr) (fun _ _ => 0)
  case atStart => exact ⟨rfl, Below.refl _ _⟩
  case round =>
    obtain ⟨rfl, hx⟩ := hrel
    obtain ⟨wm, hmk, -, hg⟩ := run_make_full (P := Tryz.prog) wr 0 133 281 i0 _ 1 Tryz.underlying133 hi hz0 hz1 .i64 .i64 0 (by rw [hz2]; omega) (by unfold maxLen; omega) (Nat.zero_le _)
    have X := Lib.hid (Ext.trans hx (⟨hg.os, hg.tape, hg.output, hg.size, fun k hk => hg.block k hk (fun e => by cases e)⟩ : Ext wr wm))
    clear hx hg hi hz0 hz1 hz2
    simp only [Int.ofNat_zero] at hmk
    go_wp2_with fail
    go_loopw [6] (fun i wr => i = .int .i64 0 ∧ Ext w wr) (fun _ _ => 0)
    case atStart => exact ⟨rfl, X.out⟩
    case round =>
      obtain ⟨rfl, hx⟩ := hrel
      go_wp2_with fail
      go_loopw [9] (fun i wr => i = .int .i64 0 ∧ Ext w wr) (fun _ _ => 0)
      case atStart => exact ⟨rfl, hx⟩
      case round =>
        obtain ⟨rfl, hx⟩ := hrel
        go_wp2_with fail
        go_loopw [11] (fun i wr => i = .int .i64 0 ∧ Ext w wr) (fun _ _ => 0)
        case atStart => exact ⟨rfl, hx⟩
        case round =>
          obtain ⟨rfl, hx⟩ := hrel
          go_wp2_with fail
          go_loopw [14] (fun i wr => i = .int .i64 0 ∧ Ext w wr) (fun _ _ => 0)
          case atStart => exact ⟨rfl, hx⟩
          case round =>
            obtain ⟨rfl, hx⟩ := hrel
            go_wp2_with fail
            go_ret
            exact ⟨rfl, hx⟩
theorem infoStretches : (Tryz.prog.info? 287).map (fun i => (i.zero, i.size, i.bytes)) = some (some (.slice none 0 0), 1, 24) := by kernel_rfl
set_option maxRecDepth 100000 in
theorem nilStretches (w : World) : Calls Tryz.prog 129 #[.slice none 0 0] w fun e w' => e = .returned (.bool true) ∧ Ext w w' := by
  obtain ⟨i0, hi, hz0, hz1, hz2⟩ := info_parts infoStretches
  go_enter Tryz.func129, Tryz.ntmps129
  go_wp2_with fail
  go_loopw [3] (fun i wr => i = .int .i64 0 ∧ Ext w wr) (fun _ _ => 0)
  case atStart => exact ⟨rfl, Below.refl _ _⟩
  case round =>
    obtain ⟨rfl, hx⟩ := hrel
    obtain ⟨wm, hmk, -, hg⟩ := run_make_full (P := Tryz.prog) wr 0 134 287 i0 _ 1 Tryz.underlying134 hi hz0 hz1 .i64 .i64 0 (by rw [hz2]; omega) (by unfold maxLen; omega) (Nat.zero_le _)
    have X := Lib.hid (Ext.trans hx (⟨hg.os, hg.tape, hg.output, hg.size, fun k hk => hg.block k hk (fun e => by cases e)⟩ : Ext wr wm))
    clear hx hg hi hz0 hz1 hz2
    simp only [Int.ofNat_zero] at hmk
    go_wp2_with fail
    go_loopw [6] (fun i wr => i = .int .i64 0 ∧ Ext w wr) (fun _ _ => 0)
    case atStart => exact ⟨rfl, X.out⟩
    case round =>
      obtain ⟨rfl, hx⟩ := hrel
      go_wp2_with fail
      go_loopw [9] (fun i wr => i = .int .i64 0 ∧ Ext w wr) (fun _ _ => 0)
      case atStart => exact ⟨rfl, hx⟩
      case round =>
        obtain ⟨rfl, hx⟩ := hrel
        go_wp2_with fail
        go_loopw [11] (fun i wr => i = .int .i64 0 ∧ Ext w wr) (fun _ _ => 0)
        case atStart => exact ⟨rfl, hx⟩
        case round =>
          obtain ⟨rfl, hx⟩ := hrel
          go_wp2_with fail
          go_loopw [14] (fun i wr => i = .int .i64 0 ∧ Ext w wr) (fun _ _ => 0)
          case atStart => exact ⟨rfl, hx⟩
          case round =>
            obtain ⟨rfl, hx⟩ := hrel
            go_wp2_with fail
            go_ret
            exact ⟨rfl, hx⟩
theorem infoPeers : (Tryz.prog.info? 289).map (fun i => (i.zero, i.size, i.bytes)) = some (some (.slice none 0 0), 1, 24) := by kernel_rfl
set_option maxRecDepth 100000 in
theorem nilPeers (w : World) : Calls Tryz.prog 130 #[.slice none 0 0] w fun e w' => e = .returned (.bool true) ∧ Ext w w' := by
  obtain ⟨i0, hi, hz0, hz1, hz2⟩ := info_parts infoPeers
  go_enter Tryz.func130, Tryz.ntmps130
  go_wp2_with fail
  go_loopw [3] (fun i wr => i = .int .i64 0 ∧ Ext w wr) (fun _ _ => 0)
  case atStart => exact ⟨rfl, Below.refl _ _⟩
  case round =>
    obtain ⟨rfl, hx⟩ := hrel
    obtain ⟨wm, hmk, -, hg⟩ := run_make_full (P := Tryz.prog) wr 0 135 289 i0 _ 1 Tryz.underlying135 hi hz0 hz1 .i64 .i64 0 (by rw [hz2]; omega) (by unfold maxLen; omega) (Nat.zero_le _)
    have X := Lib.hid (Ext.trans hx (⟨hg.os, hg.tape, hg.output, hg.size, fun k hk => hg.block k hk (fun e => by cases e)⟩ : Ext wr wm))
    clear hx hg hi hz0 hz1 hz2
    simp only [Int.ofNat_zero] at hmk
    go_wp2_with fail
    go_loopw [6] (fun i wr => i = .int .i64 0 ∧ Ext w wr) (fun _ _ => 0)
    case atStart => exact ⟨rfl, X.out⟩
    case round =>
      obtain ⟨rfl, hx⟩ := hrel
      go_wp2_with fail
      go_loopw [9] (fun i wr => i = .int .i64 0 ∧ Ext w wr) (fun _ _ => 0)
      case atStart => exact ⟨rfl, hx⟩
      case round =>
        obtain ⟨rfl, hx⟩ := hrel
        go_wp2_with fail
        go_loopw [11] (fun i wr => i = .int .i64 0 ∧ Ext w wr) (fun _ _ => 0)
        case atStart => exact ⟨rfl, hx⟩
        case round =>
          obtain ⟨rfl, hx⟩ := hrel
          go_wp2_with fail
          go_loopw [14] (fun i wr => i = .int .i64 0 ∧ Ext w wr) (fun _ _ => 0)
          case atStart => exact ⟨rfl, hx⟩
          case round =>
            obtain ⟨rfl, hx⟩ := hrel
            go_wp2_with fail
            go_ret
            exact ⟨rfl, hx⟩
end Go.Proofs.YtngahblgicjoiaaGreatDoor
/- The kit's flatLines: all lists are marked, grown by one, looked at, grown by many, looked at again; they lie apart. -/
namespace Go.Proofs.YtngahblgicjoiaaGreatDoor
open Go.RowKit

/-- A slice of rows, as a list of lists holds it. -/
structure SlV where
  ao : Option Addr
  n : Nat
  cap : Nat
def SlV.val (v : SlV) : Value := .slice v.ao v.n v.cap
def encSl (v : SlV) : List Value := [.slice v.ao v.n v.cap]
def Apart1 (vs : List SlV) : Prop := ∀ (i j : Nat) (u v : SlV), i ≠ j → vs[i]? = some u → vs[j]? = some v → ∀ b, u.val.ownBlock = some b → v.val.ownBlock ≠ some b
def OwnB (vs : List SlV) (b : Nat) : Prop := ∃ (j : Nat) (v : SlV), vs[j]? = some v ∧ v.val.ownBlock = some b
def mkL (k n : Nat) : List RowD := (List.range n).map fun i : Nat => markRow (k : Int) (i : Int)
theorem mkL_len (k n : Nat) : (mkL k n).length = n := by simp [mkL]
theorem mkL_at {k n i : Nat} (h : i < n) : (mkL k n)[i]? = some (markRow (k : Int) (i : Int)) := by simp [mkL, h]
theorem mkL_succ (k n : Nat) : mkL k (n + 1) = mkL k n ++ [markRow (k : Int) (n : Int)] := by simp [mkL, List.range_succ]
theorem mkL_take {k n i : Nat} (h : i ≤ n) : (mkL k n).take i = mkL k i := by
  unfold mkL
  rw [← List.map_take, List.take_range, Nat.min_eq_left h]
/-- Lists of rows of their own, and what they hold. -/
def ListsAt (W : World) (vs : List SlV) (c : Nat → List RowD) : Prop := ∀ (j : Nat) (v : SlV), vs[j]? = some v → (c j).length = v.n ∧ W.ownsRow 0 73 2 v.val v.n ((c j).flatMap encRw)
theorem ListsAt.but {W W' : World} {vs : List SlV} {c : Nat → List RowD} {S : Nat → Prop} (h : ListsAt W vs c) (hx : But S W W') (hS : ∀ b, OwnB vs b → ¬ S b) : ListsAt W' vs c := fun j v hv =>
  ⟨(h j v hv).1, own_but (h j v hv).2 hx (fun b hb => hS b ⟨j, v, hv, hb⟩)⟩
theorem ListsAt.ext {W W' : World} {vs : List SlV} {c : Nat → List RowD} (h : ListsAt W vs c) (hx : Ext W W') : ListsAt W' vs c := fun j v hv => ⟨(h j v hv).1, own_ext (h j v hv).2 hx⟩
theorem ListsAt.lt {W : World} {vs : List SlV} {c : Nat → List RowD} (h : ListsAt W vs c) {b : Nat} (hb : OwnB vs b) : b < W.heap.size := by
  obtain ⟨j, v, hv, e⟩ := hb
  exact ((h j v hv).2.lt b e).2
theorem lists_set {W : World} {vs : List SlV} {c : Nat → List RowD} {k g i : Nat} {v : SlV} (h : ListsAt W vs c) (ha : Apart1 vs) (hk : vs[k]? = some v) (hao : v.ao = some ⟨g, 0, none⟩) (hi : i < v.n) (x : RowD) :
    ListsAt ((W.setCell ⟨g, i * 2, none⟩ (.string x.key)).setCell ⟨g, i * 2 + 1, none⟩ (.string x.value)) vs (fun j => if j = k then (c k).set i x else c j) := by
  intro j u hu
  by_cases e : j = k
  · subst e
    rw [hk] at hu
    obtain rfl := Option.some.inj hu
    dsimp only
    rw [if_pos rfl]
    obtain ⟨h1, h2⟩ := h j v hk
    refine ⟨by rw [List.length_set]; exact h1, ?_⟩
    obtain ⟨ao, n, cap⟩ := v
    simp only at hao hi h1
    subst hao
    have h3 := own_set2 (own_set2 h2 (i * 2) (.string x.key)) (i * 2 + 1) (.string x.value)
    rw [flat_set x (c j) i (by omega)] at h3
    exact h3
  · dsimp only
    rw [if_neg e]
    obtain ⟨h1, h2⟩ := h j u hu
    have hb : v.val.ownBlock = some g := by obtain ⟨ao, n, cap⟩ := v; simp only at hao; subst hao; rfl
    have hn := ha k j v u (fun e2 => e e2.symm) hk hu g hb
    exact ⟨h1, own_setOther (a := ⟨g, i * 2 + 1, none⟩) (own_setOther (a := ⟨g, i * 2, none⟩) h2 hn _) hn _⟩
/-- An append: in place, or all of it new. -/
theorem run_append_two {P : Program} (w : World) (t ty e : TypeId) (i : TypeInfo) (z : Value) (size bytes : Nat) (ht : P.underlying t = some (.slice e)) (hi : P.info? e = some i) (hz : i.zero = some z)
    (hsize : i.size = size) (hby : i.bytes = bytes) (hzs : z.cells.size = size) (hsz : 0 < size) (v : Value) (n : Nat) (xs : List Value) (hown : w.ownsRow 0 e size v n xs)
    (a : Addr) (m c : Nat) (news : List Value) (hl : news.length = m * size) (hnews : ∀ (j : Nat) (u : Value), news[j]? = some u → w.cell? (a.add j) = some u) (h1 : ∀ u ∈ news, u.oneCell' = true) (h0 : 0 < m)
    (h63 : n + m ≤ maxLen) (hbytes : (n + m) * bytes ≤ 140737488355328) :
    ∃ so cap w', (Builtin.append_ #[t, t] ty #[v, .slice (some a) m c]).run P w = .ok (.slice so (n + m) cap) w' ∧ w'.ownsRow 0 e size (.slice so (n + m) cap) (n + m) (xs ++ news) ∧
      ((v = .slice so n cap ∧ But (fun b => v.ownBlock = some b) w w') ∨ (Ext w w' ∧ ∀ b, (Value.slice so (n + m) cap).ownBlock = some b → w.heap.size ≤ b)) := by
  obtain ⟨v', w', hr, h2, h3, -⟩ := run_append_own (P := P) w 0 t ty e i z size bytes ht hi hz hsize hby hzs hsz v n xs hown a m c news hl hnews h1 h63 hbytes (Nat.zero_le _)
  subst hsize; subst hby
  have h63' := h63
  simp only [maxLen] at h63'
  have hv : ∃ so cap, v' = .slice so (n + m) cap := by
    rcases h2.2 with ⟨_, h6⟩ | ⟨g, cap, _, h6, _⟩
    · omega
    · exact ⟨_, cap, h6⟩
  obtain ⟨so, cap, rfl⟩ := hv
  refine ⟨so, cap, w', hr, h2, ?_⟩
  rcases hown.2 with ⟨rfl, rfl⟩ | ⟨g, cap0, cur, rfl, _, hg, hnc, _, hcs, _⟩
  · rw [run_append_nil (P := P) w t ty e i z ht hi hz a m c news hl hnews h0 (by omega) (by simp only [Nat.zero_add] at hbytes; omega)] at hr
    simp only [Result.ok.injEq] at hr
    obtain ⟨e1, rfl⟩ := hr
    refine .inr ⟨(Below.refl _ w).drew.alloc (by simp) _, fun b hb => ?_⟩
    rw [← e1] at hb
    simp [Value.ownBlock] at hb
    omega
  · by_cases hroom : n + m ≤ cap0
    · have hfit : n * i.size + news.length ≤ cur.size := by rw [hl, hcs, ← Nat.add_mul]; exact Nat.mul_le_mul_right _ hroom
      rw [run_append_room (P := P) w t ty e i ht hi g n cap0 cur hg a m c news hl hnews h1 hroom hfit] at hr
      simp only [Result.ok.injEq, Value.slice.injEq, true_and] at hr
      obtain ⟨⟨rfl, rfl⟩, rfl⟩ := hr
      exact .inl ⟨rfl, (But.of_grown h3).mono fun _ _ e => e⟩
    · rw [run_append_grow (P := P) w t ty e i z ht hi hz ⟨g, 0, none⟩ n cap0 xs hown.1 (hown.cells (g := g) rfl) a m c news hl hnews (by omega) (by omega) (growslice_fits (by omega) hbytes)] at hr
      simp only [Result.ok.injEq] at hr
      obtain ⟨e1, rfl⟩ := hr
      refine .inr ⟨(Below.refl _ w).drew.alloc (by simp) _, fun b hb => ?_⟩
      rw [← e1] at hb
      simp [Value.ownBlock] at hb
      omega
theorem wpList_append_two {P : Program} {ops : Array Oper} {rest : List Oper} {o : Oper} {a : Act} {Q : Exit → Act → World → Prop} (w : World) (hgd : o.guard = none) (s x : Operand) (t : TypeId)
    (ho : o.op = .call { callee := .builtin .append, args := #[s, x], argTypes := #[t, t] })
    (e : TypeId) (i : TypeInfo) (z : Value) (size bytes : Nat) (ht : P.underlying t = some (.slice e)) (hi : P.info? e = some i) (hz : i.zero = some z)
    (hsize : i.size = size) (hby : i.bytes = bytes) (hzs : z.cells.size = size) (hsz : 0 < size)
    (v : Value) (n : Nat) (xs : List Value) (hs : a.eval s = v) (hown : w.ownsRow 0 e size v n xs)
    (ad : Addr) (m c : Nat) (news : List Value) (hx : a.eval x = .slice (some ad) m c) (hl : news.length = m * size) (hnews : ∀ (j : Nat) (u : Value), news[j]? = some u → w.cell? (ad.add j) = some u) (h1 : ∀ u ∈ news, u.oneCell' = true) (h0 : 0 < m)
    (h63 : n + m ≤ maxLen) (hbytes : (n + m) * bytes ≤ 140737488355328)
    (h : ∀ so cap w', w'.ownsRow 0 e size (.slice so (n + m) cap) (n + m) (xs ++ news) → ((v = .slice so n cap ∧ But (fun b => v.ownBlock = some b) w w') ∨ (Ext w w' ∧ ∀ b, (Value.slice so (n + m) cap).ownBlock = some b → w.heap.size ≤ b)) → wpList P ops Q rest (a.put o.dst (.slice so (n + m) cap)) w') : wpList P ops Q (o :: rest) a w := by
  refine wpList_plain hgd fun K hK => ?_
  obtain ⟨so, cap, w', hr, h2, h3⟩ := run_append_two (P := P) w t o.type e i z size bytes ht hi hz hsize hby hzs hsz v n xs hown ad m c news hl hnews h1 h0 h63 hbytes
  unfold Oper.wp execOp
  simp only [ho, resolve, invoke, builtin, Sem.run_bind, Sem.run_pure, Result.andThen_ok, List.map_toArray, List.map_cons, List.map_nil, hs, hx, hr]
  exact hK _ _ (h so cap w' h2 h3)
/-- The grown lists: those ahead of the k-th, marked through and through. -/
structure GrownAt (N1 : Nat) (W : World) (vs : List SlV) (gb : Nat) (us : List Value) (k : Nat) : Prop where
  row : W.ownsRow 0 32 1 (.slice (some ⟨gb, 0, none⟩) vs.length vs.length) vs.length us
  each : ∀ (j : Nat) (v : SlV), j < k → vs[j]? = some v → ∃ gv : SlV, us[j]? = some gv.val ∧ gv.n = v.n + 64 ∧ W.ownsRow 0 73 2 gv.val gv.n ((mkL j gv.n).flatMap encRw) ∧ ∀ b, gv.val.ownBlock = some b → v.val.ownBlock = some b ∨ N1 ≤ b
/-- Grown in any way: marked as far as they were. -/
structure GrownW (N1 : Nat) (W : World) (vs : List SlV) (gb : Nat) (us : List Value) : Prop where
  row : W.ownsRow 0 32 1 (.slice (some ⟨gb, 0, none⟩) vs.length vs.length) vs.length us
  each : ∀ (j : Nat) (v : SlV), vs[j]? = some v → ∃ (gv : SlV) (xs : List RowD), us[j]? = some gv.val ∧ v.n ≤ gv.n ∧ xs.length = gv.n ∧ xs.take v.n = mkL j v.n ∧ W.ownsRow 0 73 2 gv.val gv.n (xs.flatMap encRw) ∧ ∀ b, gv.val.ownBlock = some b → v.val.ownBlock = some b ∨ N1 ≤ b
theorem GrownAt.but {N1 : Nat} {W W' : World} {vs : List SlV} {gb k : Nat} {us : List Value} {S : Nat → Prop} (h : GrownAt N1 W vs gb us k) (hx : But S W W') (hg : ¬ S gb) (hS : ∀ (j : Nat) (v gv : SlV), j < k → vs[j]? = some v → us[j]? = some (SlV.val gv) → ∀ b, (SlV.val gv).ownBlock = some b → ¬ S b) : GrownAt N1 W' vs gb us k :=
  ⟨own_but h.row hx (fun b e => by cases e; exact hg), fun j v hj hv => by
    obtain ⟨gv, h1, h2, h3, h4⟩ := h.each j v hj hv
    exact ⟨gv, h1, h2, own_but h3 hx (hS j v gv hj hv h1), h4⟩⟩
theorem GrownAt.ext {N1 : Nat} {W W' : World} {vs : List SlV} {gb k : Nat} {us : List Value} (h : GrownAt N1 W vs gb us k) (hx : Ext W W') : GrownAt N1 W' vs gb us k :=
  h.but (Ext.but hx (fun _ => False)) id (fun _ _ _ _ _ _ _ _ e => e)
theorem GrownW.but {N1 : Nat} {W W' : World} {vs : List SlV} {gb : Nat} {us : List Value} {S : Nat → Prop} (h : GrownW N1 W vs gb us) (hx : But S W W') (hg : ¬ S gb) (hS : ∀ (j : Nat) (v gv : SlV), vs[j]? = some v → us[j]? = some (SlV.val gv) → ∀ b, (SlV.val gv).ownBlock = some b → ¬ S b) : GrownW N1 W' vs gb us :=
  ⟨own_but h.row hx (fun b e => by cases e; exact hg), fun j v hv => by
    obtain ⟨gv, xs, h1, h2, h3, h4, h5, h6⟩ := h.each j v hv
    exact ⟨gv, xs, h1, h2, h3, h4, own_but h5 hx (hS j v gv hv h1), h6⟩⟩
theorem GrownW.ext {N1 : Nat} {W W' : World} {vs : List SlV} {gb : Nat} {us : List Value} (h : GrownW N1 W vs gb us) (hx : Ext W W') : GrownW N1 W' vs gb us :=
  h.but (Ext.but hx (fun _ => False)) id (fun _ _ _ _ _ _ _ e => e)
theorem GrownAt.weak {N1 : Nat} {W : World} {vs : List SlV} {gb : Nat} {us : List Value} (h : GrownAt N1 W vs gb us vs.length) : GrownW N1 W vs gb us :=
  ⟨h.row, fun j v hv => by
    obtain ⟨gv, h1, h2, h3, h4⟩ := h.each j v (List.getElem?_eq_some_iff.1 hv).1 hv
    exact ⟨gv, _, h1, by omega, mkL_len _ _, mkL_take (by omega), h3, h4⟩⟩
theorem outer_cell {no : Nat → Prop} {W : World} {lo : Option Addr} {vs : List SlV} {k : Nat} {v : SlV} (h : NRows 1 encSl no W lo vs) (hk : vs[k]? = some v) : ∃ b off, lo = some ⟨b, off, none⟩ ∧ b < W.heap.size ∧ ¬ no b ∧ W.cell? ⟨b, off + k, none⟩ = some (.slice v.ao v.n v.cap) := by
  obtain ⟨b, off, e, hb, hn, hc⟩ := h (by intro e; rw [e] at hk; simp at hk)
  have := hc k v hk 0 _ rfl
  simp only [Nat.mul_one, Nat.add_zero] at this
  exact ⟨b, off, e, hb, hn, this⟩
theorem grown_cell {W : World} {gb N k : Nat} {us : List Value} {u : Value} (h : W.ownsRow 0 32 1 (.slice (some ⟨gb, 0, none⟩) N N) N us) (hk : k < N) (hu : us[k]? = some u) : W.cell? ⟨gb, k, none⟩ = some u := by
  rw [World.ownsRow.cellAt h k (by omega), hu]
theorem own_cells {W : World} {v : SlV} {l : List RowD} {i : Nat} {x : RowD} (h : W.ownsRow 0 73 2 v.val v.n (l.flatMap encRw)) (hl : l.length = v.n) (hx : l[i]? = some x) : ∃ g, v.ao = some ⟨g, 0, none⟩ ∧ g < W.heap.size ∧ W.cell? ⟨g, i * 2, none⟩ = some (.string x.key) ∧ W.cell? ⟨g, i * 2 + 1, none⟩ = some (.string x.value) ∧ W.frozen? ⟨g, i * 2, none⟩ = false ∧ W.frozen? ⟨g, i * 2 + 1, none⟩ = false := by
  obtain ⟨ao, n, cap⟩ := v
  simp only [SlV.val] at h hl
  have hil : i < l.length := (List.getElem?_eq_some_iff.1 hx).1
  rcases own_cases' (n := n - 1) (by rw [show n - 1 + 1 = n from by omega]; exact h) with ⟨g, c2, e⟩
  simp only [Value.slice.injEq] at e
  obtain ⟨rfl, -, rfl⟩ := e
  obtain ⟨cs, hb⟩ := own_blk h (j := g) rfl
  have hr := rows_of_own (enc := encRw) (sz := 2) (l := l) (fun _ => rfl) (by rw [← hl] at h; exact h)
  obtain ⟨g', off, e2, hg, hc⟩ := hr (by intro e; rw [e] at hil; simp at hil)
  cases e2
  have c0 := hc i x hx 0 _ rfl; have c1 := hc i x hx 1 _ rfl
  simp only [Nat.zero_add, Nat.add_zero] at c0 c1
  exact ⟨g, rfl, hg, c0, c1, hb.free _, hb.free _⟩
theorem infoSl : (Tryz.prog.info? 32).map (fun i => (i.zero, i.size, i.bytes)) = some (some (.slice none 0 0), 1, 24) := by kernel_rfl
theorem made_rows : (madeCells (Value.agg #[.string ⟨#[]⟩, .string ⟨#[]⟩]).cells (64 * 2)).toList = (List.replicate 64 (⟨⟨#[]⟩, ⟨#[]⟩⟩ : RowD)).flatMap encRw := by kernel_rfl
def mkC (vs : List SlV) (j : Nat) : List RowD := mkL j ((vs[j]?.map (·.n)).getD 0)
theorem mkC_at {vs : List SlV} {j : Nat} {v : SlV} (h : vs[j]? = some v) : mkC vs j = mkL j v.n := by unfold mkC; rw [h]; rfl
theorem But.new {S : Nat → Prop} {a b c : World} {T : Nat → Prop} (h : But S a b) (k : But T b c) (hT : ∀ i, i < a.heap.size → T i → S i) : But S a c := h.trans k (fun _ _ e => e) hT
/-- One list appended to, in place or not: the lists hold what they held. -/
theorem lists_two {W W' : World} {vs : List SlV} {k m cap : Nat} {v : SlV} {so : Option Addr} {ys : List RowD} (h : ListsAt W vs (mkC vs)) (ha : Apart1 vs) (hk : vs[k]? = some v)
    (hown : W'.ownsRow 0 73 2 (.slice so (v.n + m) cap) (v.n + m) ((mkL k v.n).flatMap encRw ++ ys.flatMap encRw)) (h2 : (v.val = .slice so v.n cap ∧ But (fun b => v.val.ownBlock = some b) W W') ∨ Ext W W') : ListsAt W' vs (mkC vs) := by
  rcases h2 with ⟨e, hx⟩ | hx
  · intro j u hu
    by_cases ej : j = k
    · subst ej
      rw [hk] at hu
      obtain rfl := Option.some.inj hu
      refine ⟨(h j v hk).1, ?_⟩
      have h3 := own_cut hown v.n (by omega)
      rw [mkC_at hk, e]
      have h4 : ((mkL j v.n).flatMap encRw ++ ys.flatMap encRw).take (v.n * 2) = (mkL j v.n).flatMap encRw := by
        refine List.take_left' ?_
        have h5 : ∀ m : List RowD, (m.flatMap encRw).length = m.length * 2 := by
          intro m
          induction m with
          | nil => rfl
          | cons a m ih => rw [List.flatMap_cons, List.length_append, ih, List.length_cons]; simp only [encRw, List.length_cons, List.length_nil]; omega
        rw [h5, mkL_len]
      rw [h4] at h3
      exact h3
    · exact ⟨(h j u hu).1, own_but (h j u hu).2 hx (fun b hb e2 => ha j k u v ej hu hk b hb e2)⟩
  · exact h.ext hx

theorem ob_slice (ao : Option Addr) (n m c d : Nat) : (Value.slice ao n c).ownBlock = (Value.slice ao m d).ownBlock := by cases ao <;> rfl
theorem same_self (k v : ByteArray) : sameRw k v k v = true := by unfold sameRw; simp
/-- One row more behind a list that grows: what becomes of all. -/
theorem grow_step {N1 : Nat} {wk W4 w5 w : World} {vs : List SlV} {gb k n gcap cap : Nat} {us : List Value} {v : SlV} {gao so : Option Addr} {ys : List RowD} (hN1 : N1 = w.heap.size) (hO : ∀ b, OwnB vs b → b < w.heap.size) (hwk : w.heap.size ≤ wk.heap.size) (hk4 : wk.heap.size ≤ W4.heap.size) (hgb : w.heap.size ≤ gb)
    (ha : Apart1 vs) (hv : vs[k]? = some v) (hL : ListsAt W4 vs (mkC vs)) (hGk : GrownAt N1 wk vs gb us k) (hG : GrownAt N1 W4 vs gb us k) (hB : But (OwnB vs) w W4)
    (hal : (gao = v.ao ∧ gcap = v.cap) ∨ ∀ c, (Value.slice gao n gcap).ownBlock = some c → wk.heap.size ≤ c)
    (hown : w5.ownsRow 0 73 2 (.slice so (n + 1) cap) (n + 1) ((mkL k v.n).flatMap encRw ++ ys.flatMap encRw)) (hys : v.n + ys.length = n + 1)
    (h2 : (Value.slice gao n gcap = .slice so n cap ∧ But (fun b => (Value.slice gao n gcap).ownBlock = some b) W4 w5) ∨ (Ext W4 w5 ∧ ∀ b, (Value.slice so (n + 1) cap).ownBlock = some b → W4.heap.size ≤ b)) :
    ListsAt w5 vs (mkC vs) ∧ GrownAt N1 w5 vs gb us k ∧ ((so = v.ao ∧ cap = v.cap) ∨ ∀ c, (Value.slice so (n + 1) cap).ownBlock = some c → wk.heap.size ≤ c) ∧ But (OwnB vs) w w5 ∧ wk.heap.size ≤ w5.heap.size := by
  have hgbk : gb < wk.heap.size := (hGk.row.lt gb rfl).2
  rcases h2 with ⟨e, hx⟩ | ⟨hx, hf⟩
  · simp only [Value.slice.injEq, true_and] at e
    obtain ⟨rfl, rfl⟩ := e
    rcases hal with ⟨rfl, rfl⟩ | hf
    · have hvb : ∀ b, (Value.slice v.ao n v.cap).ownBlock = some b → v.val.ownBlock = some b := fun b hb => by rw [← hb]; exact ob_slice ..
      have hob : ∀ b, (Value.slice v.ao n v.cap).ownBlock = some b → OwnB vs b := fun b hb => ⟨k, v, hv, hvb b hb⟩
      refine ⟨?_, ?_, .inl ⟨rfl, rfl⟩, hB.new hx (fun i _ e => hob i e), Nat.le_trans hk4 hx.size⟩
      · have hx' : But (fun b => v.val.ownBlock = some b) W4 w5 := hx.mono fun i _ e => hvb i e
        refine lists_two (m := ys.length) (cap := v.cap) (so := v.ao) (ys := ys) hL ha hv ?_ (.inl ⟨rfl, hx'⟩)
        rw [hys]; exact hown
      · refine hG.but hx (fun e => ?_) (fun j u gv hj hu hg b hb e => ?_)
        · have := hO _ (hob _ e); omega
        · obtain ⟨gv', h1, -, -, h4⟩ := hG.each j u hj hu
          rw [h1] at hg
          have hgv : gv'.val = gv.val := Option.some.inj hg
          rw [← hgv] at hb
          rcases h4 b hb with h5 | h5
          · exact ha j k u v (by omega) hu hv b h5 (hvb b e)
          · have := hO _ (hob _ e); omega
    · have hno : ∀ b, (Value.slice gao n gcap).ownBlock = some b → ¬ OwnB vs b := fun b hb ho => by have := hf b hb; have := hO b ho; omega
      refine ⟨hL.but hx (fun b hb e => hno b e hb), ?_, .inr (fun c hc => hf c (by rw [← hc]; exact ob_slice ..)), hB.new hx (fun i hi e => by have := hf i e; omega), Nat.le_trans hk4 hx.size⟩
      refine hG.but hx (fun e => by have := hf _ e; omega) (fun j u gv hj hu hg b hb e => ?_)
      obtain ⟨gv', h1, -, h3, -⟩ := hGk.each j u hj hu
      rw [h1] at hg
      have hgv : gv'.val = gv.val := Option.some.inj hg
      rw [← hgv] at hb
      have := (h3.lt b hb).2
      have := hf b e
      omega
  · exact ⟨hL.ext hx, hG.ext hx, .inr (fun c hc => Nat.le_trans hk4 (hf c hc)), hB.new (Ext.but hx (fun _ => False)) (fun _ _ e => e.elim), Nat.le_trans hk4 hx.size⟩
/-- The grown list is put where it belongs. -/
theorem grown_put {N1 : Nat} {W wk : World} {vs : List SlV} {gb k : Nat} {us : List Value} {v : SlV} {gao : Option Addr} {gcap : Nat} (hG : GrownAt N1 W vs gb us k) (hk : k < vs.length) (hv : vs[k]? = some v) (hN1 : N1 ≤ wk.heap.size)
    (hown : W.ownsRow 0 73 2 (.slice gao (v.n + 64) gcap) (v.n + 64) ((mkL k (v.n + 64)).flatMap encRw)) (hal : (gao = v.ao ∧ gcap = v.cap) ∨ ∀ c, (Value.slice gao (v.n + 64) gcap).ownBlock = some c → wk.heap.size ≤ c) :
    GrownAt N1 (W.setCell ⟨gb, k, none⟩ (.slice gao (v.n + 64) gcap)) vs gb (us.set k (.slice gao (v.n + 64) gcap)) (k + 1) := by
  obtain ⟨cs, hb⟩ := own_blk hG.row (j := gb) rfl
  have hlen : us.length = vs.length := by have := hG.row.1; omega
  refine ⟨own_set2 hG.row k _, fun j u hj hu => ?_⟩
  by_cases e : j = k
  · subst e
    rw [hv] at hu
    obtain rfl := Option.some.inj hu
    refine ⟨⟨gao, v.n + 64, gcap⟩, by rw [List.getElem?_set_self (by omega)]; rfl, rfl, own_setOther (a := ⟨gb, j, none⟩) hown (own_ne hown hb (by decide)) _, fun b hb => ?_⟩
    rcases hal with ⟨rfl, rfl⟩ | hf
    · left; rw [← hb]; exact ob_slice ..
    · right; exact Nat.le_trans hN1 (hf b hb)
  · obtain ⟨gv, h1, h2, h3, h4⟩ := hG.each j u (by omega) hu
    exact ⟨gv, by rw [List.getElem?_set_ne (fun e2 => e e2.symm)]; exact h1, h2, own_setOther (a := ⟨gb, k, none⟩) h3 (own_ne h3 hb (by decide)) _, h4⟩
/-- A list grown by many, put where it belongs. -/
theorem many_put {N1 : Nat} {w W W' : World} {vs : List SlV} {gb k cap : Nat} {us : List Value} {v : SlV} {so : Option Addr} {ys : List RowD} (hN1 : N1 = w.heap.size) (hO : ∀ b, OwnB vs b → b < w.heap.size) (hww : w.heap.size ≤ W.heap.size) (hgb : w.heap.size ≤ gb)
    (ha : Apart1 vs) (hk : k < vs.length) (hv : vs[k]? = some v) (hG : GrownW N1 W vs gb us) (hys : ys.length = 64)
    (hown : W'.ownsRow 0 73 2 (.slice so (v.n + 64) cap) (v.n + 64) ((mkL k v.n).flatMap encRw ++ ys.flatMap encRw))
    (h2 : (v.val = .slice so v.n cap ∧ But (fun b => v.val.ownBlock = some b) W W') ∨ (Ext W W' ∧ ∀ b, (Value.slice so (v.n + 64) cap).ownBlock = some b → W.heap.size ≤ b)) :
    GrownW N1 (W'.setCell ⟨gb, k, none⟩ (.slice so (v.n + 64) cap)) vs gb (us.set k (.slice so (v.n + 64) cap)) := by
  have hvo : ∀ b, v.val.ownBlock = some b → b < w.heap.size := fun b hb => hO b ⟨k, v, hv, hb⟩
  have hrow : W'.ownsRow 0 32 1 (.slice (some ⟨gb, 0, none⟩) vs.length vs.length) vs.length us := by
    rcases h2 with ⟨_, hx⟩ | ⟨hx, _⟩
    · exact own_but hG.row hx (fun b hb e => by have h1 : gb = b := by simpa [Value.ownBlock] using hb
                                                have := hvo b e
                                                omega)
    · exact own_ext hG.row hx
  obtain ⟨cs, hb⟩ := own_blk hrow (j := gb) rfl
  have hlen : us.length = vs.length := by have := hG.row.1; omega
  refine ⟨own_set2 hrow k _, fun j u hu => ?_⟩
  by_cases e : j = k
  · subst e
    rw [hv] at hu
    obtain rfl := Option.some.inj hu
    refine ⟨⟨so, v.n + 64, cap⟩, mkL j v.n ++ ys, by rw [List.getElem?_set_self (by omega)]; rfl, by simp, by rw [List.length_append, mkL_len, hys], List.take_left' (mkL_len _ _), ?_, fun b hb2 => ?_⟩
    · have h5 := own_setOther (a := ⟨gb, j, none⟩) hown (own_ne hown hb (by decide)) (.slice so (v.n + 64) cap)
      rw [← List.flatMap_append] at h5
      exact h5
    · rcases h2 with ⟨e2, _⟩ | ⟨hx, hf⟩
      · left
        rw [e2, ← hb2]; exact ob_slice ..
      · right
        have := hf b hb2
        omega
  · obtain ⟨gv, xs, h1, h3, h4, h5, h6, h7⟩ := hG.each j u hu
    have h8 : W'.ownsRow 0 73 2 gv.val gv.n (xs.flatMap encRw) := by
      rcases h2 with ⟨_, hx⟩ | ⟨hx, _⟩
      · refine own_but h6 hx (fun b hb2 e2 => ?_)
        rcases h7 b hb2 with h9 | h9
        · exact ha j k u v e hu hv b h9 e2
        · have := hvo b e2; omega
      · exact own_ext h6 hx
    exact ⟨gv, xs, by rw [List.getElem?_set_ne (fun e2 => e e2.symm)]; exact h1, h3, h4, h5, own_setOther (a := ⟨gb, k, none⟩) h8 (own_ne h8 hb (by decide)) _, h7⟩

set_option maxRecDepth 100000 in
set_option maxHeartbeats 12800000 in
theorem flatLines_calls (vs : List SlV) (lo : Option Addr) (lcap : Nat) (w : World) (c0 : Nat → List RowD) (hN : vs.length ≤ 1000) (hn : ∀ (j : Nat) (v : SlV), vs[j]? = some v → v.n ≤ 1000000) (hrow : NRows 1 encSl (OwnB vs) w lo vs) (hlists : ListsAt w vs c0) (hap : Apart1 vs) :
    Calls Tryz.prog 122 #[.slice lo vs.length lcap] w fun e w' => e = .returned (.bool true) ∧ But (OwnB vs) w w' := by
  have HR := Lib.hid hrow; have HL := Lib.hid hlists; have HA := Lib.hid hap; have HN := Lib.hid hn
  have OL := Lib.hid (fun b (hb : OwnB vs b) => hlists.lt hb)
  clear hrow hlists hap hn
  go_enter Tryz.func122, Tryz.ntmps122
  go_wp2_with fail
  go_loopw [3] (fun i wr => ∃ (k : Nat) (c : Nat → List RowD), k ≤ vs.length ∧ i = .int .i64 k ∧ ListsAt wr vs c ∧ (∀ (j : Nat) (v : SlV), j < k → vs[j]? = some v → c j = mkL j v.n) ∧ But (OwnB vs) w wr) (fun i _ => vs.length - (intOf i).toNat)
  case atStart => exact ⟨0, c0, by omega, rfl, HL.out, fun j v h => by omega, But.refl _ _⟩
  case round =>
    obtain ⟨k, c, hk, rfl, hL, hM, hB⟩ := hrel
    have L1 := Lib.hid hL; have M1 := Lib.hid hM; have B1 := Lib.hid hB
    clear hL hM hB
    by_cases hlt : k < vs.length
    · obtain ⟨v, hv⟩ : ∃ v, vs[k]? = some v := ⟨_, List.getElem?_eq_getElem hlt⟩
      obtain ⟨b, off, rfl, hb, hnb, hcell⟩ := outer_cell HR.out hv
      have hvn := HN.out k v hv
      have HV := Lib.hid hv; have NB := Lib.hid hnb
      have LC := Lib.hid (fun W (hW : But (OwnB vs) w W) => (hW.cell (p := ⟨b, _, none⟩) hb hnb).trans hcell)
      obtain ⟨vao, vn, vcap⟩ := v
      simp only at LC hvn
      have i0 : (0 : Int) ≤ (k : Int) := by omega
      have i1 : (k : Int) < (vs.length : Int) := by omega
      clear hv hnb hcell hb
      go_wp2_with fail
      go_loopw [4] (fun i wr => ∃ (q : Nat) (c : Nat → List RowD), q ≤ vn ∧ i = .int .i64 q ∧ ListsAt wr vs c ∧ (∀ (j : Nat) (v : SlV), j < k → vs[j]? = some v → c j = mkL j v.n) ∧ (c k).take q = mkL k q ∧ But (OwnB vs) w wr) (fun i _ => vn - (intOf i).toNat)
      case atStart => exact ⟨0, c, by omega, rfl, L1.out, M1.out, by simp [mkL], B1.out⟩
      case round =>
        obtain ⟨q, c, hq, rfl, hL, hM, hT, hB⟩ := hrel
        have L2 := Lib.hid hL; have M2 := Lib.hid hM; have T2 := Lib.hid hT; have B2 := Lib.hid hB
        have l0 := LC.out wr hB
        clear hL hM hT hB
        by_cases hqt : q < vn
        · have hcl := (L2.out k _ HV.out).1
          obtain ⟨x, hx⟩ : ∃ x, (c k)[q]? = some x := ⟨_, List.getElem?_eq_getElem (by simp only at hcl; omega)⟩
          obtain ⟨g, rfl, hg, -, -, -, -⟩ := own_cells (L2.out k _ HV.out).2 hcl hx
          have hbg : b ≠ g := fun e => NB.out ⟨k, _, HV.out, by rw [e]; rfl⟩
          have l1 : ∀ p : ButBy (fun j => j = g) wr, p.W.cell? ⟨b, off + k, none⟩ = some (.slice (some ⟨g, 0, none⟩) vn vcap) := ButBy.cell l0 hbg
          have MC := Lib.hid (fun W => markRow_calls (k : Int) (q : Int) W)
          obtain ⟨M, hMM⟩ : ∃ M, M = markRow (k : Int) (q : Int) := ⟨_, rfl⟩
          rw [← hMM] at MC
          have HM := Lib.hid hMM; have HX := Lib.hid hx
          obtain ⟨mk, mv⟩ := M
          unfold encRw at MC
          simp only at MC hcl
          have CL := Lib.hid hcl
          have XD : Hid (Ext wr wr.drew) := Lib.hid (Below.refl _ wr).drew
          have q0 : (0 : Int) ≤ (q : Int) := by omega
          have q1 : (q : Int) < (vn : Int) := by omega
          clear hMM hx hcl hbg
          go_wp2_with fail
          refine wp_region_firstC (fun W => ∃ p : ButBy (fun j => j = g) wr, W = p.W) [0, 1, 2, 3, 4, 5, 6] 3 (by kernel_rfl) (by kernel_rfl) (fun _ _ _ _ h => h) ⟨⟨wr.drew, Ext.but XD.out _⟩, rfl⟩ ?_
          simp only [opsAt, List.getElem?_toArray, List.getElem?_cons_succ, List.getElem?_cons_zero]
          repeat (go_big_quiet_step (fail))
          refine wpQuiet_nil ?_
          obtain ⟨wq, hwq⟩ : ∃ wq, wq = wr.drew := ⟨_, rfl⟩
          rw [← hwq] at XD ⊢
          clear hwq l0 l1
          refine wpAnyH_ready (rs := [7]) (by kernel_rfl) (by simp) ?_
          refine AllReadyH.cons rfl (fun K hK => ?_) AllReadyH.nil
          go_simp
          refine (MC.out wq).mono ?_
          rintro e w3 ⟨rfl, hx3⟩
          have X3 := Lib.hid (Ext.trans XD.out hx3)
          refine hK.out _ _ ⟨⟨_, Ext.but X3.out _⟩, rfl⟩ (fun _ => ?_)
          clear hK K hx3
          refine wp_takesC (f := 1) [8] (by kernel_rfl) (fun _ _ _ _ h => h) ⟨⟨_, Ext.but X3.out _⟩, rfl⟩ ?_
          simp only [opsAt, List.getElem?_toArray, List.getElem?_cons_succ, List.getElem?_cons_zero]
          repeat (go_big_quiet_step (fail))
          refine wpQuiet_nil ?_
          have L3 := Lib.hid (L2.out.ext X3.out)
          obtain ⟨g', hg', -, d0, d1, f0, f1⟩ := own_cells (L3.out k _ HV.out).2 CL.out HX.out
          cases hg'
          have hbs : But (fun j => j = g) wr ((w3.setCell ⟨g, q * 2, none⟩ (.string mk)).setCell ⟨g, q * 2 + 1, none⟩ (.string mv)) := ((Ext.but X3.out (fun j => j = g)).setCell (p := ⟨g, q * 2, none⟩) (fun _ => rfl) _).setCell (p := ⟨g, q * 2 + 1, none⟩) (fun _ => rfl) _
          have BS := Lib.hid hbs
          clear hbs
          refine wpAnyH_ready (rs := [9]) (by kernel_rfl) (by simp) ?_
          refine AllReadyH.cons rfl (fun K hK => ?_) AllReadyH.nil
          go_simp
          refine hK.out _ _ ⟨⟨_, BS.out⟩, rfl⟩ (fun _ => ?_)
          clear hK K d0 d1 f0 f1
          refine wpAnyH_done (by kernel_rfl) ?_ _
          go_wp2_with fail
          go_roundw
          case rel =>
            have hls := lists_set L3.out HA.out HV.out rfl hqt ⟨mk, mv⟩
            refine ⟨q + 1, _, by omega, by go_num, hls, fun j u hj hu => ?_, ?_, B2.out.new BS.out (fun i hi e => ⟨k, _, HV.out, by rw [show i = g from e]; rfl⟩)⟩
            · rw [if_neg (by omega)]; exact M2.out j u hj hu
            · rw [if_pos rfl, mkL_succ, ← T2.out, ← HM.out, List.take_add_one, List.getElem?_set_self (by have := CL.out; omega), List.take_set]
              rw [List.set_eq_of_length_le (by rw [List.length_take]; omega)]
              rfl
          case measure => simp [intOf]; omega
        · obtain rfl : q = vn := by omega
          go_wp2_with fail
          go_roundw
          case rel =>
            refine ⟨k + 1, c, by omega, by go_num, L2.out, fun j u hj hu => ?_, B2.out⟩
            rcases Nat.lt_or_ge j k with h | h
            · exact M2.out j u h hu
            · obtain rfl : j = k := by omega
              rw [HV.out] at hu
              obtain rfl := Option.some.inj hu
              have h1 := (L2.out j _ HV.out).1
              have h2 := T2.out
              rw [List.take_of_length_le (by simp only at h1; omega)] at h2
              exact h2
          case measure => simp [intOf]; omega
    · have hkN : k = vs.length := by omega
      have LM : Hid (ListsAt wr vs (mkC vs)) := Lib.hid (fun j v hv => by
        have hj := (List.getElem?_eq_some_iff.1 hv).1
        have h1 := L1.out j v hv
        rw [M1.out j v (by omega) hv] at h1
        rw [mkC_at hv]; exact h1)
      obtain ⟨i0, hi, hz0, hz1, hz2⟩ := info_parts infoSl
      obtain ⟨wm, hmk, hownm, hgm⟩ := run_make_full (P := Tryz.prog) wr 0 48 32 i0 _ 1 Tryz.underlying48 hi hz0 hz1 .i64 .i64 vs.length (by rw [hz2]; omega) (by unfold maxLen; omega) (Nat.zero_le _)
      obtain ⟨gb, hgb⟩ : ∃ gb, gb = wr.heap.size := ⟨_, rfl⟩
      rw [← hgb] at hmk hownm
      have hxm : Ext wr wm := ⟨hgm.os, hgm.tape, hgm.output, hgm.size, fun k hk => hgm.block k hk (fun e => by cases e)⟩
      have GB : Hid (w.heap.size ≤ gb) := Lib.hid (by rw [hgb]; exact B1.out.size)
      have OM := Lib.hid hownm; have LM2 := Lib.hid (LM.out.ext hxm); have BM := Lib.hid (B1.out.new (Ext.but hxm (fun _ => False)) (fun _ _ e => e.elim))
      clear hownm hgm hgb hxm LM L1 M1 B1 hi hz0 hz1 hz2 hkN
      go_wp2_with fail
      clear hmk
      go_loopw [6] (fun i wr => ∃ (k : Nat) (us : List Value), k ≤ vs.length ∧ i = .int .i64 k ∧ ListsAt wr vs (mkC vs) ∧ GrownAt w.heap.size wr vs gb us k ∧ But (OwnB vs) w wr) (fun i _ => vs.length - (intOf i).toNat)
      case atStart => exact ⟨0, _, by omega, rfl, LM2.out, ⟨OM.out, fun j v h => by omega⟩, BM.out⟩
      case round =>
        obtain ⟨k, us, hk, rfl, hL, hG, hB⟩ := hrel
        have L1 := Lib.hid hL; have G1 := Lib.hid hG; have B1 := Lib.hid hB
        clear hL hG hB
        obtain ⟨wk, rfl⟩ : ∃ wk, wk = wr := ⟨_, rfl⟩
        have hsk := B1.out.size
        by_cases hlt : k < vs.length
        · obtain ⟨v, hv⟩ : ∃ v, vs[k]? = some v := ⟨_, List.getElem?_eq_getElem hlt⟩
          obtain ⟨b, off, rfl, hb, hnb, hcell⟩ := outer_cell HR.out hv
          have hvn := HN.out k v hv
          have HV := Lib.hid hv
          have LC := Lib.hid (fun W (hW : But (OwnB vs) w W) => (hW.cell (p := ⟨b, _, none⟩) hb hnb).trans hcell)
          obtain ⟨vao, vn, vcap⟩ := v
          simp only at LC hvn
          have l0 := LC.out wk B1.out
          have i0 : (0 : Int) ≤ (k : Int) := by omega
          have i1 : (k : Int) < (vs.length : Int) := by omega
          have hst := (L1.out k _ HV.out).2
          rw [mkC_at HV.out] at hst
          have HST := Lib.hid hst
          clear hv hnb hcell hb hst
          go_wp2_with fail
          clear l0
          go_loopw [7, 8] (fun vg i wr => ∃ (q : Nat) (gao : Option Addr) (gcap : Nat), q ≤ 64 ∧ i = .int .i64 q ∧ vg = .slice gao (vn + q) gcap ∧ wr.ownsRow 0 73 2 (.slice gao (vn + q) gcap) (vn + q) ((mkL k (vn + q)).flatMap encRw) ∧ ListsAt wr vs (mkC vs) ∧ GrownAt w.heap.size wr vs gb us k ∧ ((gao = vao ∧ gcap = vcap) ∨ ∀ c, (Value.slice gao (vn + q) gcap).ownBlock = some c → wk.heap.size ≤ c) ∧ But (OwnB vs) w wr ∧ wk.heap.size ≤ wr.heap.size) (fun _ i _ => 64 - (intOf i).toNat)
          case atStart => exact ⟨0, vao, vcap, by omega, rfl, rfl, HST.out, L1.out, G1.out, .inl ⟨rfl, rfl⟩, B1.out, Nat.le_refl _⟩
          case round =>
            obtain ⟨q, gao, gcap, hq, rfl, rfl, hown, hL, hG, hal, hB, hsz⟩ := hrel
            have O2 := Lib.hid hown; have L2 := Lib.hid hL; have G2 := Lib.hid hG; have A2 := Lib.hid hal; have B2 := Lib.hid hB
            clear hown hL hG hal hB
            by_cases hqt : q < 64
            · have l0 := LC.out wr B2.out
              have MC := Lib.hid (fun W => markRow_calls (k : Int) ((vn : Int) + (q : Int)) W)
              obtain ⟨M, hMM⟩ : ∃ M, M = markRow (k : Int) ((vn : Int) + (q : Int)) := ⟨_, rfl⟩
              rw [← hMM] at MC
              have MS : Hid (mkL k (vn + q + 1) = mkL k (vn + q) ++ [M]) := Lib.hid (by rw [mkL_succ, hMM]; simp)
              obtain ⟨mk, mv⟩ := M
              unfold encRw at MC
              simp only at MC
              obtain ⟨i0', hi', hz0', hz1', hz2'⟩ := info_parts infoRow
              clear hMM
              go_wp2_with fail
              refine (MC.out wr).mono ?_
              rintro e w3 ⟨rfl, hx3⟩
              have X3 := Lib.hid hx3
              have EN : Hid (Ext w3 (w3.alloc (.cells #[.string mk, .string mv] 73))) := Lib.hid ((Below.refl _ w3).alloc (Nat.le_refl _) _)
              have CN := Lib.hid (cells_new w3 [.string mk, .string mv] 73)
              clear hx3 l0
              go_wp2_with (at_builtin; refine wpList_append_two _ rfl (.tmp 57) (.tmp 67) 32 rfl 73 i0' _ 2 32 Tryz.underlying32 hi' hz0' hz1' hz2' rfl (by decide) (.slice gao (vn + q) gcap) (vn + q) ((mkL k (vn + q)).flatMap encRw) rfl (own_ext (own_ext O2.out X3.out) EN.out) ⟨w3.heap.size, 0, none⟩ 1 1 (encRw ⟨mk, mv⟩) rfl rfl CN.out (one_row _) (by decide) (by unfold maxLen; omega) (by omega) ?_; intro so cap w5 h1 h2; have Y1 := Lib.hid h1; have Y2 := Lib.hid h2; clear h1 h2)
              go_roundw
              case rel =>
                have hx4 := Ext.trans X3.out EN.out
                have hys : (mkL k vn).flatMap encRw ++ ((mkL k (vn + q + 1)).drop vn).flatMap encRw = (mkL k (vn + q)).flatMap encRw ++ encRw ⟨mk, mv⟩ := by
                  rw [← List.flatMap_append]
                  have e1 : mkL k vn = (mkL k (vn + q + 1)).take vn := (mkL_take (by omega)).symm
                  conv => lhs; rw [e1, List.take_append_drop, MS.out, List.flatMap_append]
                  simp
                have hst := grow_step (k := k) (n := vn + q) (v := ⟨vao, vn, vcap⟩) (ys := (mkL k (vn + q + 1)).drop vn) (cap := cap) (so := so) (w5 := w5) rfl OL.out hsk (Nat.le_trans hsz hx4.size) GB.out HA.out HV.out (L2.out.ext hx4) G1.out (G2.out.ext hx4) (B2.out.new (Ext.but hx4 (fun _ => False)) (fun _ _ e => e.elim)) A2.out (by rw [hys]; exact Y1.out) (by rw [List.length_drop, mkL_len]; simp only; omega) Y2.out
                refine ⟨q + 1, so, cap, by omega, by go_num, rfl, ?_, hst.1, hst.2.1, hst.2.2.1, hst.2.2.2.1, hst.2.2.2.2⟩
                have h9 := Y1.out
                rw [show vn + (q + 1) = vn + q + 1 from rfl, MS.out, List.flatMap_append]
                simpa using h9
              case measure => simp [intOf]; omega
            · obtain rfl : q = 64 := by omega
              have hul : us.length = vs.length := by have := G2.out.row.1; omega
              obtain ⟨u, hu⟩ : ∃ u, us[k]? = some u := ⟨_, List.getElem?_eq_getElem (by omega)⟩
              have c5 := grown_cell G2.out.row hlt hu
              obtain ⟨cs5, hb5⟩ := own_blk G2.out.row (j := gb) rfl
              have f5 := hb5.free k
              clear hul hu hb5
              go_wp2_with fail
              go_roundw
              case rel =>
                have hset : But (fun j => j = gb) wr (wr.setCell ⟨gb, k, none⟩ (.slice gao (vn + 64) gcap)) := (But.refl (fun j => j = gb) wr).setCell (p := ⟨gb, k, none⟩) (fun _ => rfl) _
                have hgb := GB.out
                refine ⟨k + 1, _, by omega, by go_num, L2.out.but hset (fun b hb e => by have := OL.out b hb; have e2 : b = gb := e; omega), grown_put G2.out hlt HV.out hsk O2.out A2.out, B2.out.new hset (fun i hi e => by have e2 : i = gb := e; omega)⟩
              case measure => simp [intOf]; omega
        · obtain rfl : k = vs.length := by omega
          obtain ⟨wB, rfl⟩ : ∃ wB, wB = wk := ⟨_, rfl⟩
          have GB3 := Lib.hid G1.out.each
          go_wp2_with fail
          go_loopw [9] (fun i wr => ∃ k : Nat, k ≤ vs.length ∧ i = .int .i64 k ∧ Ext wB wr) (fun i _ => vs.length - (intOf i).toNat)
          case atStart => exact ⟨0, by omega, rfl, Below.refl _ _⟩
          case round =>
            obtain ⟨k, hk, rfl, hx⟩ := hrel
            have K1 := Lib.hid hx
            clear hx
            by_cases hlt2 : k < vs.length
            · obtain ⟨v, hv⟩ : ∃ v, vs[k]? = some v := ⟨_, List.getElem?_eq_getElem hlt2⟩
              obtain ⟨b, off, rfl, hb, hnb, hcell⟩ := outer_cell HR.out hv
              have hvn := HN.out k v hv
              have HV := Lib.hid hv
              have LC := Lib.hid (fun W (hW : Ext wB W) => ((B1.out.new (Ext.but hW (fun _ => False)) (fun _ _ e => e.elim)).cell (p := ⟨b, _, none⟩) hb hnb).trans hcell)
              obtain ⟨gv, hu, hgn, hgo, -⟩ := GB3.out k v hlt2 hv
              obtain ⟨vao, vn, vcap⟩ := v
              obtain ⟨gao, gn, gcap⟩ := gv
              simp only at LC hvn hgn
              subst hgn
              have GC := Lib.hid (fun W (hW : Ext wB W) => grown_cell (own_ext G1.out.row hW) hlt2 hu)
              have GO := Lib.hid hgo
              unfold SlV.val at GC
              simp only at GC
              have i0 : (0 : Int) ≤ (k : Int) := by omega
              have i1 : (k : Int) < (vs.length : Int) := by omega
              clear hv hnb hcell hb hu hgo
              go_wp2_with fail
              go_loopw [10] (fun i wr => ∃ q : Nat, q ≤ vn + 64 ∧ i = .int .i64 q ∧ Ext wB wr) (fun i _ => vn + 64 - (intOf i).toNat)
              case atStart => exact ⟨0, by omega, rfl, K1.out⟩
              case round =>
                obtain ⟨q, hq, rfl, hx⟩ := hrel
                have K2 := Lib.hid hx
                clear hx
                have gc := GC.out wr K2.out
                by_cases hqt : q < vn + 64
                · obtain ⟨g, hg, hgl, d0, d1, -, -⟩ := own_cells (own_ext GO.out K2.out) (mkL_len _ _) (mkL_at hqt)
                  simp only at hg
                  subst hg
                  have MC := Lib.hid (fun (p : ExtBy wr) => markRow_calls (k : Int) (q : Int) p.W)
                  have hmq : ∀ hlt3 : q < vn, (mkC vs k)[q]? = some (markRow (k : Int) (q : Int)) := fun hlt3 => by rw [mkC_at HV.out]; exact mkL_at hlt3
                  obtain ⟨M, hMM⟩ : ∃ M, M = markRow (k : Int) (q : Int) := ⟨_, rfl⟩
                  rw [← hMM] at MC d0 d1 hmq
                  obtain ⟨mk, mv⟩ := M
                  unfold encRw at MC
                  simp only at MC d0 d1
                  have heq := eql_Rw
                  have hself := same_self mk mv
                  have gc1 := ExtBy.cell gc; have e0 := ExtBy.cell d0; have e1 := ExtBy.cell d1
                  have q0 : (0 : Int) ≤ (q : Int) := by omega
                  have q1 : (q : Int) < ((vn + 64 : Nat) : Int) := by omega
                  have q2 : (q : Int) < (vn : Int) + 64 := by omega
                  have HMQ := Lib.hid hmq
                  have l1 := ExtBy.cell (LC.out wr K2.out)
                  clear hMM d0 d1 hmq
                  by_cases hlt3 : q < vn
                  · obtain ⟨g', hg', -, d0, d1, -, -⟩ := own_cells ((L1.out.ext K2.out) k _ HV.out).2 ((L1.out.ext K2.out) k _ HV.out).1 (HMQ.out hlt3)
                    simp only at hg'
                    subst hg'
                    have k0 := ExtBy.cell d0; have k1 := ExtBy.cell d1
                    simp only at k0 k1
                    have t1 : decide (q < vn) = true := decide_eq_true hlt3
                    have t2 : decide ((q : Int) < (vn : Int)) = true := decide_eq_true (by omega)
                    have q3 : (q : Int) < (vn : Int) := by omega
                    clear d0 d1
                    go_wp2_with fail
                    refine wp_region_ext (by kernel_rfl) (by kernel_rfl) ?_
                    repeat (go_big_quiet_step ((with_reducible exact Calls.ext_of _ (MC.out _))))
                    refine wpQuiet_nil ?_
                    intro wc hw'
                    have XC : Hid (Ext wB wc) := Lib.hid (by obtain ⟨p, rfl⟩ := hw'; exact Ext.trans K2.out p.ext)
                    clear hw' gc1 e0 e1 k0 k1 l1 heq hself
                    go_wp2_with fail
                    go_roundw
                    case rel => exact ⟨q + 1, by omega, by go_num, XC.out⟩
                    case measure => simp [intOf]; omega
                  · have t1 : decide (q < vn) = false := decide_eq_false hlt3
                    have t2 : decide ((q : Int) < (vn : Int)) = false := decide_eq_false (by omega)
                    go_wp2_with fail
                    refine wp_region_ext (by kernel_rfl) (by kernel_rfl) ?_
                    repeat (go_big_quiet_step ((with_reducible exact Calls.ext_of _ (MC.out _))))
                    refine wpQuiet_nil ?_
                    intro wc hw'
                    have XC : Hid (Ext wB wc) := Lib.hid (by obtain ⟨p, rfl⟩ := hw'; exact Ext.trans K2.out p.ext)
                    clear hw' gc1 e0 e1 l1 heq hself
                    go_wp2_with fail
                    go_roundw
                    case rel => exact ⟨q + 1, by omega, by go_num, XC.out⟩
                    case measure => simp [intOf]; omega
                · obtain rfl : q = vn + 64 := by omega
                  go_wp2_with fail
                  go_roundw
                  case rel => exact ⟨k + 1, by omega, by go_num, K2.out⟩
                  case measure => simp [intOf]; omega
            · obtain rfl : k = vs.length := by omega
              obtain ⟨wC, rfl⟩ : ∃ wC, wC = wr := ⟨_, rfl⟩
              have GW := Lib.hid ((G1.out.ext K1.out).weak); have LW := Lib.hid (L1.out.ext K1.out); have BW := Lib.hid (B1.out.new (Ext.but K1.out (fun _ => False)) (fun _ _ e => e.elim))
              clear L1 G1 B1 GB3 K1 hsk
              go_wp2_with fail
              go_loopw [11] (fun i wr => ∃ (k : Nat) (us : List Value), k ≤ vs.length ∧ i = .int .i64 k ∧ ListsAt wr vs (mkC vs) ∧ GrownW w.heap.size wr vs gb us ∧ But (OwnB vs) w wr) (fun i _ => vs.length - (intOf i).toNat)
              case atStart => exact ⟨0, _, by omega, rfl, LW.out, GW.out, BW.out⟩
              case round =>
                obtain ⟨k, us, hk, rfl, hL, hG, hB⟩ := hrel
                have L1 := Lib.hid hL; have G1 := Lib.hid hG; have B1 := Lib.hid hB
                clear hL hG hB
                by_cases hlt4 : k < vs.length
                · obtain ⟨v, hv⟩ : ∃ v, vs[k]? = some v := ⟨_, List.getElem?_eq_getElem hlt4⟩
                  obtain ⟨b, off, rfl, hb, hnb, hcell⟩ := outer_cell HR.out hv
                  have hvn := HN.out k v hv
                  have HV := Lib.hid hv
                  have LC := Lib.hid (fun W (hW : But (OwnB vs) w W) => (hW.cell (p := ⟨b, _, none⟩) hb hnb).trans hcell)
                  obtain ⟨vao, vn, vcap⟩ := v
                  simp only at LC hvn
                  have i0 : (0 : Int) ≤ (k : Int) := by omega
                  have i1 : (k : Int) < (vs.length : Int) := by omega
                  clear hv hnb hcell hb
                  obtain ⟨j0, hj, hj0, hj1, hj2⟩ := info_parts infoRow
                  obtain ⟨wm, hmk, hownm, hgm⟩ := run_make_full (P := Tryz.prog) wr 0 32 73 j0 _ 2 Tryz.underlying32 hj hj0 hj1 .i64 .i64 64 (by rw [hj2]; omega) (by unfold maxLen; omega) (Nat.zero_le _)
                  rw [made_rows] at hownm
                  obtain ⟨mb, hmb⟩ : ∃ mb, mb = wr.heap.size := ⟨_, rfl⟩
                  rw [← hmb] at hmk hownm
                  have hxm : Ext wr wm := ⟨hgm.os, hgm.tape, hgm.output, hgm.size, fun k hk => hgm.block k hk (fun e => by cases e)⟩
                  have OM := Lib.hid hownm; have XM := Lib.hid hxm; have HMB := Lib.hid hmb
                  clear hownm hgm hxm hmb
                  simp only [Int.cast_ofNat_Int] at hmk
                  obtain ⟨wo, rfl⟩ : ∃ wo, wo = wr := ⟨_, rfl⟩
                  go_wp2_with fail
                  clear hmk
                  go_loopw [13] (fun i wr => ∃ (q : Nat) (xs : List RowD), q ≤ 64 ∧ i = .int .i64 q ∧ xs.length = 64 ∧ wr.ownsRow 0 73 2 (.slice (some ⟨mb, 0, none⟩) 64 64) 64 (xs.flatMap encRw) ∧ But (fun j => j = mb) wm wr) (fun i _ => 64 - (intOf i).toNat)
                  case atStart => exact ⟨0, _, by omega, rfl, by simp, OM.out, But.refl _ _⟩
                  case round =>
                    obtain ⟨q, xs, hq, rfl, hxl, hown, hx⟩ := hrel
                    have O2 := Lib.hid hown; have K2 := Lib.hid hx; have XL := Lib.hid hxl
                    clear hown hx hxl
                    by_cases hqt : q < 64
                    · have MC := Lib.hid (fun W => markRow_calls ((k : Int) + (vs.length : Int)) (q : Int) W)
                      obtain ⟨M, hMM⟩ : ∃ M, M = markRow ((k : Int) + (vs.length : Int)) (q : Int) := ⟨_, rfl⟩
                      rw [← hMM] at MC
                      obtain ⟨mk, mv⟩ := M
                      unfold encRw at MC
                      simp only at MC
                      have q0 : (0 : Int) ≤ (q : Int) := by omega
                      have q1 : (q : Int) < 64 := by omega
                      clear hMM
                      go_wp2_with fail
                      refine (MC.out wr).mono ?_
                      rintro e w3 ⟨rfl, hx3⟩
                      have X3 := Lib.hid hx3
                      obtain ⟨x, hx⟩ : ∃ x, xs[q]? = some x := ⟨_, List.getElem?_eq_getElem (by have := XL.out; omega)⟩
                      obtain ⟨g', hg', -, d0, d1, f0, f1⟩ := own_cells (v := ⟨some ⟨mb, 0, none⟩, 64, 64⟩) (own_ext O2.out hx3) XL.out hx
                      cases hg'
                      clear hx3 hx
                      go_wp2_with fail
                      go_roundw
                      case rel =>
                        have h3 := own_set2 (own_set2 (own_ext O2.out X3.out) (q * 2) (.string mk)) (q * 2 + 1) (.string mv)
                        rw [flat_set ⟨mk, mv⟩ xs q (by have := XL.out; omega)] at h3
                        exact ⟨q + 1, xs.set q ⟨mk, mv⟩, by omega, by go_num, by rw [List.length_set]; exact XL.out, h3, K2.out.new (((Ext.but X3.out (fun j => j = mb)).setCell (p := ⟨mb, q * 2, none⟩) (fun _ => rfl) _).setCell (p := ⟨mb, q * 2 + 1, none⟩) (fun _ => rfl) _) (fun _ _ e => e)⟩
                      case measure => simp [intOf]; omega
                    · obtain rfl : q = 64 := by omega
                      have hxw : Ext wo wr := Below.trans XM.out (K2.out.below XM.out.size (fun i e => by rw [show i = mb from e, HMB.out]; exact Nat.le_refl _))
                      have X6 := Lib.hid hxw
                      have l0 := LC.out wr (B1.out.new (Ext.but hxw (fun _ => False)) (fun _ _ e => e.elim))
                      have hul : us.length = vs.length := by have := G1.out.row.1; omega
                      obtain ⟨u, hu⟩ : ∃ u, us[k]? = some u := ⟨_, List.getElem?_eq_getElem (by omega)⟩
                      have HU := Lib.hid hu
                      have hst := ((L1.out.ext hxw) k _ HV.out).2
                      rw [mkC_at HV.out] at hst
                      have HST := Lib.hid hst
                      have hrm := rows_of_own (enc := encRw) (sz := 2) (l := xs) (cap := 64) (fun _ => rfl) (by rw [XL.out]; exact O2.out)
                      have CN : Hid (∀ (j : Nat) (y : Value), (xs.flatMap encRw)[j]? = some y → wr.cell? ((⟨mb, 0, none⟩ : Addr).add j) = some y) := Lib.hid (O2.out.cells (g := mb) rfl)
                      have LX : Hid ((xs.flatMap encRw).length = 64 * 2) := Lib.hid O2.out.1
                      have OX : Hid (∀ y ∈ xs.flatMap encRw, y.oneCell' = true) := Lib.hid (fun y hy => by
                        obtain ⟨r, _, hr⟩ := List.mem_flatMap.1 hy
                        exact one_row r y hr)
                      clear hxw hul hu hst hrm
                      go_wp2_with (at_builtin; refine wpList_append_two _ rfl (.tmp 148) (.tmp 149) 32 rfl 73 j0 _ 2 32 Tryz.underlying32 hj hj0 hj1 hj2 rfl (by decide) (.slice vao vn vcap) vn ((mkL k vn).flatMap encRw) rfl HST.out ⟨mb, 0, none⟩ 64 64 (xs.flatMap encRw) rfl LX.out CN.out OX.out (by decide) (by unfold maxLen; omega) (by omega) ?_; intro so cap w5 h1 h2; have Y1 := Lib.hid h1; have Y2 := Lib.hid h2; obtain ⟨c5, f5⟩ : w5.cell? ⟨gb, k, none⟩ = some u ∧ w5.frozen? ⟨gb, k, none⟩ = false := (by
                        have hr5 : w5.ownsRow 0 32 1 (.slice (some ⟨gb, 0, none⟩) vs.length vs.length) vs.length us := by
                          rcases h2 with ⟨_, hx5⟩ | ⟨hx5, _⟩
                          · exact own_but (own_ext G1.out.row X6.out) hx5 (fun b hb e => by
                              have h1 : gb = b := by simpa [Value.ownBlock] using hb
                              have h3 := OL.out b ⟨k, _, HV.out, e⟩
                              have h4 := GB.out
                              omega)
                          · exact own_ext (own_ext G1.out.row X6.out) hx5
                        obtain ⟨cs5, hb5⟩ := own_blk hr5 (j := gb) rfl
                        exact ⟨grown_cell hr5 hlt4 HU.out, hb5.free k⟩); clear h1 h2)
                      go_roundw
                      case rel =>
                        have hset : But (fun j => j = gb) w5 (w5.setCell ⟨gb, k, none⟩ (.slice so (vn + 64) cap)) := (But.refl (fun j => j = gb) w5).setCell (p := ⟨gb, k, none⟩) (fun _ => rfl) _
                        have hgb := GB.out
                        have hB6 := B1.out.new (Ext.but X6.out (fun _ => False)) (fun _ _ e => e.elim)
                        have hL5 : ListsAt w5 vs (mkC vs) := lists_two (v := ⟨vao, vn, vcap⟩) (m := 64) (cap := cap) (so := so) (ys := xs) (L1.out.ext X6.out) HA.out HV.out Y1.out (by
                          rcases Y2.out with h | h
                          · exact .inl h
                          · exact .inr h.1)
                        have hB5 : But (OwnB vs) w w5 := by
                          rcases Y2.out with ⟨_, hx5⟩ | ⟨hx5, _⟩
                          · exact hB6.new hx5 (fun i _ e => ⟨k, _, HV.out, e⟩)
                          · exact hB6.new (Ext.but hx5 (fun _ => False)) (fun _ _ e => e.elim)
                        exact ⟨k + 1, _, by omega, by go_num, hL5.but hset (fun b hb e => by have := OL.out b hb; have e2 : b = gb := e; omega), many_put (v := ⟨vao, vn, vcap⟩) rfl OL.out hB6.size GB.out HA.out hlt4 HV.out (G1.out.ext X6.out) XL.out Y1.out Y2.out, hB5.new hset (fun i hi e => by have e2 : i = gb := e; omega)⟩
                      case measure => simp [intOf]; omega
                · obtain rfl : k = vs.length := by omega
                  obtain ⟨wD, rfl⟩ : ∃ wD, wD = wr := ⟨_, rfl⟩
                  go_wp2_with fail
                  go_loopw [14] (fun i wr => ∃ k : Nat, k ≤ vs.length ∧ i = .int .i64 k ∧ Ext wD wr) (fun i _ => vs.length - (intOf i).toNat)
                  case atStart => exact ⟨0, by omega, rfl, Below.refl _ _⟩
                  case round =>
                    obtain ⟨k, hk, rfl, hx⟩ := hrel
                    have K1 := Lib.hid hx
                    clear hx
                    by_cases hlt5 : k < vs.length
                    · obtain ⟨v, hv⟩ : ∃ v, vs[k]? = some v := ⟨_, List.getElem?_eq_getElem hlt5⟩
                      obtain ⟨b, off, rfl, hb, hnb, hcell⟩ := outer_cell HR.out hv
                      have hvn := HN.out k v hv
                      have HV := Lib.hid hv
                      have LC := Lib.hid (fun W (hW : Ext wD W) => ((B1.out.new (Ext.but hW (fun _ => False)) (fun _ _ e => e.elim)).cell (p := ⟨b, _, none⟩) hb hnb).trans hcell)
                      obtain ⟨gv, xs, hu, hgn, hgl, hgt, hgo, -⟩ := G1.out.each k v hv
                      obtain ⟨vao, vn, vcap⟩ := v
                      obtain ⟨gao, gn, gcap⟩ := gv
                      simp only at LC hvn hgn hgl hgt
                      have GC := Lib.hid (fun W (hW : Ext wD W) => grown_cell (own_ext G1.out.row hW) hlt5 hu)
                      have GO := Lib.hid hgo; have GL := Lib.hid hgl; have GT := Lib.hid hgt
                      unfold SlV.val at GC
                      simp only at GC
                      have i0 : (0 : Int) ≤ (k : Int) := by omega
                      have i1 : (k : Int) < (vs.length : Int) := by omega
                      clear hv hnb hcell hb hu hgo hgl hgt
                      go_wp2_with fail
                      go_loopw [15] (fun i wr => ∃ q : Nat, q ≤ vn ∧ i = .int .i64 q ∧ Ext wD wr) (fun i _ => vn - (intOf i).toNat)
                      case atStart => exact ⟨0, by omega, rfl, K1.out⟩
                      case round =>
                        obtain ⟨q, hq, rfl, hx⟩ := hrel
                        have K2 := Lib.hid hx
                        clear hx
                        have lc := LC.out wr K2.out
                        by_cases hqt : q < vn
                        · have hxq : xs[q]? = some (markRow (k : Int) (q : Int)) := by
                            have h1 := mkL_at (k := k) hqt
                            rw [← GT.out, List.getElem?_take_of_lt hqt] at h1
                            exact h1
                          have hcq : (mkC vs k)[q]? = some (markRow (k : Int) (q : Int)) := by rw [mkC_at HV.out]; exact mkL_at hqt
                          obtain ⟨g, hg, -, d0, d1, -, -⟩ := own_cells (own_ext GO.out K2.out) GL.out hxq
                          obtain ⟨g', hg', -, d2, d3, -, -⟩ := own_cells ((L1.out.ext K2.out) k _ HV.out).2 ((L1.out.ext K2.out) k _ HV.out).1 hcq
                          simp only at hg hg'
                          subst hg hg'
                          have MC := Lib.hid (fun (p : ExtBy wr) => markRow_calls (k : Int) (q : Int) p.W)
                          obtain ⟨M, hMM⟩ : ∃ M, M = markRow (k : Int) (q : Int) := ⟨_, rfl⟩
                          rw [← hMM] at MC d0 d1 d2 d3
                          obtain ⟨mk, mv⟩ := M
                          unfold encRw at MC
                          simp only at MC d0 d1 d2 d3
                          have heq := eql_Rw
                          have hself := same_self mk mv
                          have e0 := ExtBy.cell d0; have e1 := ExtBy.cell d1; have e2 := ExtBy.cell d2; have e3 := ExtBy.cell d3; have l1 := ExtBy.cell lc; have g1 := ExtBy.cell (GC.out wr K2.out)
                          have q0 : (0 : Int) ≤ (q : Int) := by omega
                          have q1 : (q : Int) < (vn : Int) := by omega
                          have q2 : (q : Int) < (gn : Int) := by omega
                          clear hxq hcq d0 d1 d2 d3 hMM
                          go_wp2_with fail
                          refine wp_region_ext (by kernel_rfl) (by kernel_rfl) ?_
                          repeat (go_big_quiet_step ((with_reducible exact Calls.ext_of _ (MC.out _))))
                          refine wpQuiet_nil ?_
                          intro wc hw'
                          have XC : Hid (Ext wD wc) := Lib.hid (by obtain ⟨p, rfl⟩ := hw'; exact Ext.trans K2.out p.ext)
                          clear hw' e0 e1 e2 e3 l1 g1 heq hself
                          go_wp2_with fail
                          go_roundw
                          case rel => exact ⟨q + 1, by omega, by go_num, XC.out⟩
                          case measure => simp [intOf]; omega
                        · obtain rfl : q = vn := by omega
                          go_wp2_with fail
                          go_roundw
                          case rel => exact ⟨k + 1, by omega, by go_num, K2.out⟩
                          case measure => simp [intOf]; omega
                    · go_wp2_with fail
                      go_ret
                      exact ⟨rfl, B1.out.new (Ext.but K1.out (fun _ => False)) (fun _ _ e => e.elim)⟩
end Go.Proofs.YtngahblgicjoiaaGreatDoor
/- ApartLines: rows that were handed out lie apart. -/
namespace Go.Proofs.YtngahblgicjoiaaGreatDoor
open Go.RowKit

set_option maxRecDepth 100000 in
set_option maxHeartbeats 3200000 in
theorem bagLines_calls (vs : List SlV) (lo : Option Addr) (lcap bb : Nat) (w : World) (c0 : Nat → List RowD) (hN : vs.length ≤ 1000) (hn : ∀ (j : Nat) (v : SlV), vs[j]? = some v → v.n ≤ 1000000) (hb : Blk w bb [.slice none 0 0, .slice none 0 0, .slice none 0 0, .slice none 0 0, .slice none 0 0, .slice none 0 0, .slice none 0 0, .slice none 0 0, .slice none 0 0, .slice none 0 0, .slice none 0 0, .slice none 0 0, .slice none 0 0, .slice lo vs.length lcap, .slice none 0 0, .slice none 0 0, .slice none 0 0, .slice none 0 0, .slice none 0 0, .slice none 0 0, .slice none 0 0, .slice none 0 0] 137) (hnb : ¬ OwnB vs bb) (hrow : NRows 1 encSl (OwnB vs) w lo vs) (hlists : ListsAt w vs c0) (hap : Apart1 vs) :
    Calls Tryz.prog 62 #[.pointer (some ⟨bb, 0, none⟩)] w fun e w' => e = .returned (.bool true) ∧ But (OwnB vs) w w' := by
  have HB := Lib.hid hb
  have FL := Lib.hid (fun W (hW : But (OwnB vs) w W) (hx : Ext w W) => flatLines_calls vs lo lcap W c0 hN hn (hrow.step hW (fun b _ e => .inl e) (fun _ _ e => e)) (hlists.ext hx) hap)
  have NB := Lib.hid hnb
  clear hb hnb hrow hlists hap hn
  go_enter Tryz.func62, Tryz.ntmps62
  have X0 := Lib.hid (Below.refl w.heap.size w)
  have B0 := HB
  have c0 := B0.out.cell 0
  simp only [List.getElem?_cons_zero] at c0
  go_wp2_with fail
  clear c0
  refine (nilLimbs _).mono ?_
  rintro e w1 ⟨rfl, hx⟩
  have X1 := Lib.hid (Ext.trans X0.out hx)
  have B1 := Lib.hid (B0.out.ext' hx)
  clear hx X0
  have c1 := B1.out.cell 1
  simp only [List.getElem?_cons_zero, List.getElem?_cons_succ] at c1
  go_wp2_with fail
  clear c1
  refine (nilWords _).mono ?_
  rintro e w2 ⟨rfl, hx⟩
  have X2 := Lib.hid (Ext.trans X1.out hx)
  have B2 := Lib.hid (B1.out.ext' hx)
  clear hx X1 B1
  have c2 := B2.out.cell 2
  simp only [List.getElem?_cons_zero, List.getElem?_cons_succ] at c2
  go_wp2_with fail
  clear c2
  refine (nilInts _).mono ?_
  rintro e w3 ⟨rfl, hx⟩
  have X3 := Lib.hid (Ext.trans X2.out hx)
  have B3 := Lib.hid (B2.out.ext' hx)
  clear hx X2 B2
  have c3 := B3.out.cell 3
  simp only [List.getElem?_cons_zero, List.getElem?_cons_succ] at c3
  go_wp2_with fail
  clear c3
  refine (nilLongs _).mono ?_
  rintro e w4 ⟨rfl, hx⟩
  have X4 := Lib.hid (Ext.trans X3.out hx)
  have B4 := Lib.hid (B3.out.ext' hx)
  clear hx X3 B3
  have c4 := B4.out.cell 4
  simp only [List.getElem?_cons_zero, List.getElem?_cons_succ] at c4
  go_wp2_with fail
  clear c4
  refine (nilTexts _).mono ?_
  rintro e w5 ⟨rfl, hx⟩
  have X5 := Lib.hid (Ext.trans X4.out hx)
  have B5 := Lib.hid (B4.out.ext' hx)
  clear hx X4 B4
  have c5 := B5.out.cell 5
  simp only [List.getElem?_cons_zero, List.getElem?_cons_succ] at c5
  go_wp2_with fail
  clear c5
  refine (nilBytes _).mono ?_
  rintro e w6 ⟨rfl, hx⟩
  have X6 := Lib.hid (Ext.trans X5.out hx)
  have B6 := Lib.hid (B5.out.ext' hx)
  clear hx X5 B5
  have c6 := B6.out.cell 6
  simp only [List.getElem?_cons_zero, List.getElem?_cons_succ] at c6
  go_wp2_with fail
  clear c6
  refine (nilTruths _).mono ?_
  rintro e w7 ⟨rfl, hx⟩
  have X7 := Lib.hid (Ext.trans X6.out hx)
  have B7 := Lib.hid (B6.out.ext' hx)
  clear hx X6 B6
  have c7 := B7.out.cell 7
  simp only [List.getElem?_cons_zero, List.getElem?_cons_succ] at c7
  go_wp2_with fail
  clear c7
  refine (nilSpans _).mono ?_
  rintro e w8 ⟨rfl, hx⟩
  have X8 := Lib.hid (Ext.trans X7.out hx)
  have B8 := Lib.hid (B7.out.ext' hx)
  clear hx X7 B7
  have c8 := B8.out.cell 8
  simp only [List.getElem?_cons_zero, List.getElem?_cons_succ] at c8
  go_wp2_with fail
  clear c8
  refine (nilShareRows _).mono ?_
  rintro e w9 ⟨rfl, hx⟩
  have X9 := Lib.hid (Ext.trans X8.out hx)
  have B9 := Lib.hid (B8.out.ext' hx)
  clear hx X8 B8
  have c9 := B9.out.cell 9
  simp only [List.getElem?_cons_zero, List.getElem?_cons_succ] at c9
  go_wp2_with fail
  clear c9
  refine (nilSharesRows _).mono ?_
  rintro e w10 ⟨rfl, hx⟩
  have X10 := Lib.hid (Ext.trans X9.out hx)
  have B10 := Lib.hid (B9.out.ext' hx)
  clear hx X9 B9
  have c10 := B10.out.cell 10
  simp only [List.getElem?_cons_zero, List.getElem?_cons_succ] at c10
  go_wp2_with fail
  clear c10
  refine (nilNames _).mono ?_
  rintro e w11 ⟨rfl, hx⟩
  have X11 := Lib.hid (Ext.trans X10.out hx)
  have B11 := Lib.hid (B10.out.ext' hx)
  clear hx X10 B10
  have c11 := B11.out.cell 11
  simp only [List.getElem?_cons_zero, List.getElem?_cons_succ] at c11
  go_wp2_with fail
  clear c11
  refine (nilActs _).mono ?_
  rintro e w12 ⟨rfl, hx⟩
  have X12 := Lib.hid (Ext.trans X11.out hx)
  have B12 := Lib.hid (B11.out.ext' hx)
  clear hx X11 B11
  have c12 := B12.out.cell 12
  simp only [List.getElem?_cons_zero, List.getElem?_cons_succ] at c12
  go_wp2_with fail
  clear c12
  refine (nilReads _).mono ?_
  rintro e w13 ⟨rfl, hx⟩
  have X13 := Lib.hid (Ext.trans X12.out hx)
  have B13 := Lib.hid (B12.out.ext' hx)
  clear hx X12 B12
  have c13 := B13.out.cell 13
  simp only [List.getElem?_cons_zero, List.getElem?_cons_succ] at c13
  go_wp2_with fail
  clear c13
  refine (FL.out _ (Ext.but X13.out _) X13.out).mono ?_
  rintro e w14 ⟨rfl, hx⟩
  have K14 := Lib.hid ((Ext.but X13.out (OwnB vs)).trans hx (fun _ _ e => e) (fun _ _ e => e))
  have B14 := Lib.hid (B13.out.but hx NB.out)
  clear hx X13 B13
  have c14 := B14.out.cell 14
  simp only [List.getElem?_cons_zero, List.getElem?_cons_succ] at c14
  go_wp2_with fail
  clear c14
  refine (nilHolds _).mono ?_
  rintro e w15 ⟨rfl, hx⟩
  have K15 := Lib.hid (K14.out.trans (Ext.but hx (fun _ => False)) (fun _ _ e => e) (fun _ _ e => e.elim))
  have B15 := Lib.hid (B14.out.ext' hx)
  clear hx K14 B14
  have c15 := B15.out.cell 15
  simp only [List.getElem?_cons_zero, List.getElem?_cons_succ] at c15
  go_wp2_with fail
  clear c15
  refine (nilConfigs _).mono ?_
  rintro e w16 ⟨rfl, hx⟩
  have K16 := Lib.hid (K15.out.trans (Ext.but hx (fun _ => False)) (fun _ _ e => e) (fun _ _ e => e.elim))
  have B16 := Lib.hid (B15.out.ext' hx)
  clear hx K15 B15
  have c16 := B16.out.cell 16
  simp only [List.getElem?_cons_zero, List.getElem?_cons_succ] at c16
  go_wp2_with fail
  clear c16
  refine (nilEntries _).mono ?_
  rintro e w17 ⟨rfl, hx⟩
  have K17 := Lib.hid (K16.out.trans (Ext.but hx (fun _ => False)) (fun _ _ e => e) (fun _ _ e => e.elim))
  have B17 := Lib.hid (B16.out.ext' hx)
  clear hx K16 B16
  have c17 := B17.out.cell 17
  simp only [List.getElem?_cons_zero, List.getElem?_cons_succ] at c17
  go_wp2_with fail
  clear c17
  refine (nilBases _).mono ?_
  rintro e w18 ⟨rfl, hx⟩
  have K18 := Lib.hid (K17.out.trans (Ext.but hx (fun _ => False)) (fun _ _ e => e) (fun _ _ e => e.elim))
  have B18 := Lib.hid (B17.out.ext' hx)
  clear hx K17 B17
  have c18 := B18.out.cell 18
  simp only [List.getElem?_cons_zero, List.getElem?_cons_succ] at c18
  go_wp2_with fail
  clear c18
  refine (nilImages _).mono ?_
  rintro e w19 ⟨rfl, hx⟩
  have K19 := Lib.hid (K18.out.trans (Ext.but hx (fun _ => False)) (fun _ _ e => e) (fun _ _ e => e.elim))
  have B19 := Lib.hid (B18.out.ext' hx)
  clear hx K18 B18
  have c19 := B19.out.cell 19
  simp only [List.getElem?_cons_zero, List.getElem?_cons_succ] at c19
  go_wp2_with fail
  clear c19
  refine (nilLetters _).mono ?_
  rintro e w20 ⟨rfl, hx⟩
  have K20 := Lib.hid (K19.out.trans (Ext.but hx (fun _ => False)) (fun _ _ e => e) (fun _ _ e => e.elim))
  have B20 := Lib.hid (B19.out.ext' hx)
  clear hx K19 B19
  have c20 := B20.out.cell 20
  simp only [List.getElem?_cons_zero, List.getElem?_cons_succ] at c20
  go_wp2_with fail
  clear c20
  refine (nilStretches _).mono ?_
  rintro e w21 ⟨rfl, hx⟩
  have K21 := Lib.hid (K20.out.trans (Ext.but hx (fun _ => False)) (fun _ _ e => e) (fun _ _ e => e.elim))
  have B21 := Lib.hid (B20.out.ext' hx)
  clear hx K20 B20
  have c21 := B21.out.cell 21
  simp only [List.getElem?_cons_zero, List.getElem?_cons_succ] at c21
  go_wp2_with fail
  clear c21
  refine (nilPeers _).mono ?_
  rintro e w22 ⟨rfl, hx⟩
  have K22 := Lib.hid (K21.out.trans (Ext.but hx (fun _ => False)) (fun _ _ e => e) (fun _ _ e => e.elim))
  have B22 := Lib.hid (B21.out.ext' hx)
  clear hx K21 B21
  clear B22
  go_wp2_with fail
  go_ret
  exact ⟨rfl, K22.out⟩

theorem one_sl : ∀ (x : SlV), ∀ u ∈ encSl x, u.oneCell' = true := by
  intro x u hu
  simp only [encSl, List.mem_cons, List.not_mem_nil, or_false] at hu
  subst hu; rfl
/-- The bag amid the putting: k lists are in it. -/
structure BagMid (w : World) (bb : Nat) (vs : List SlV) (k : Nat) (wr : World) : Prop where
  out : ∃ so cap, Blk wr bb [.slice none 0 0, .slice none 0 0, .slice none 0 0, .slice none 0 0, .slice none 0 0, .slice none 0 0, .slice none 0 0, .slice none 0 0, .slice none 0 0, .slice none 0 0, .slice none 0 0, .slice none 0 0, .slice none 0 0, .slice so k cap, .slice none 0 0, .slice none 0 0, .slice none 0 0, .slice none 0 0, .slice none 0 0, .slice none 0 0, .slice none 0 0, .slice none 0 0] 137 ∧ wr.ownsRow w.heap.size 32 1 (.slice so k cap) k ((vs.take k).flatMap encSl) ∧ Ext w wr
set_option maxRecDepth 100000 in
set_option maxHeartbeats 1600000 in
theorem putLines_calls (x : SlV) (bb n cap : Nat) (so : Option Addr) (us : List Value) (w0 w : World) (hn : n ≤ 1000) (hb : Blk w bb [.slice none 0 0, .slice none 0 0, .slice none 0 0, .slice none 0 0, .slice none 0 0, .slice none 0 0, .slice none 0 0, .slice none 0 0, .slice none 0 0, .slice none 0 0, .slice none 0 0, .slice none 0 0, .slice none 0 0, .slice so n cap, .slice none 0 0, .slice none 0 0, .slice none 0 0, .slice none 0 0, .slice none 0 0, .slice none 0 0, .slice none 0 0, .slice none 0 0] 137) (hbb : w0.heap.size ≤ bb) (hown : w.ownsRow w0.heap.size 32 1 (.slice so n cap) n us) (hx0 : Ext w0 w) :
    Calls Tryz.prog 61 #[.pointer (some ⟨bb, 0, none⟩), .slice x.ao x.n x.cap] w fun e w' => e = .returned (.tuple #[]) ∧ ∃ so' cap', Blk w' bb [.slice none 0 0, .slice none 0 0, .slice none 0 0, .slice none 0 0, .slice none 0 0, .slice none 0 0, .slice none 0 0, .slice none 0 0, .slice none 0 0, .slice none 0 0, .slice none 0 0, .slice none 0 0, .slice none 0 0, .slice so' (n + 1) cap', .slice none 0 0, .slice none 0 0, .slice none 0 0, .slice none 0 0, .slice none 0 0, .slice none 0 0, .slice none 0 0, .slice none 0 0] 137 ∧ w'.ownsRow w0.heap.size 32 1 (.slice so' (n + 1) cap') (n + 1) (us ++ encSl x) ∧ Ext w0 w' := by
  obtain ⟨i0, hi, hz0, hz1, hz2⟩ := info_parts infoLines
  have HB := Lib.hid hb; have HO := Lib.hid hown; have HX := Lib.hid hx0
  have c13 := hb.cell 13
  simp only [List.getElem?_cons_zero, List.getElem?_cons_succ] at c13
  have EN : Hid (Ext w (w.alloc (.cells #[.slice x.ao x.n x.cap] 32))) := Lib.hid ((Below.refl _ w).alloc (Nat.le_refl _) _)
  have CN := Lib.hid (cells_new w [.slice x.ao x.n x.cap] 32)
  clear hb hown hx0
  go_enter Tryz.func61, Tryz.ntmps61
  go_wp2_with (at_builtin; refine wpList_append_at _ rfl (.tmp 8) (.tmp 10) 48 rfl 32 i0 _ 1 24 Tryz.underlying48 hi hz0 hz1 hz2 rfl (by decide) (.slice so n cap) n us rfl (own_ext (own_base HO.out (fun _ _ => Nat.zero_le _)) EN.out) ⟨w.heap.size, 0, none⟩ 1 1 (encSl x) rfl rfl CN.out (one_sl _) (by decide) (by unfold maxLen; omega) (by omega) ?_; intro g cap5 w5 h1 h2 h3; have Y1 := Lib.hid h1; have Y2 := Lib.hid h2; have Y3 := Lib.hid h3; have hb5 := (HB.out.ext' EN.out).but h2 (fun e => own_ne (own_ext HO.out EN.out) (HB.out.ext' EN.out) (by decide) e); have B5 := Lib.hid hb5; have c5 := hb5.cell 13; have f5 := hb5.free 13; simp only [List.getElem?_cons_zero, List.getElem?_cons_succ] at c5; clear h1 h2 h3 hb5)
  go_end0
  have hge : ∀ j, (Value.slice (some ⟨g, 0, none⟩) (n + 1) cap5).ownBlock = some j → w0.heap.size ≤ j := fun j hj => by
    rcases Y3.out j hj with e | e
    · exact own_ge HO.out j e
    · have := HX.out.size; have := EN.out.size; omega
  have hx5 : Ext w0 w5 := Below.trans HX.out (((Ext.but EN.out (fun _ => False)).trans Y2.out (U := fun j => w0.heap.size ≤ j) (fun _ _ e => e.elim) (fun i _ e => own_ge HO.out i e)).below HX.out.size (fun _ h => h))
  refine ⟨rfl, _, cap5, B5.out.set 13 _, ?_, hx5.setCell (p := ⟨bb, 13, none⟩) hbb _⟩
  exact own_setOther (a := ⟨bb, 13, none⟩) (own_base Y1.out hge) (own_ne Y1.out B5.out (by decide)) _
set_option maxRecDepth 100000 in
set_option maxHeartbeats 1600000 in
theorem apartLines_calls (vs : List SlV) (lo : Option Addr) (lcap : Nat) (w : World) (c0 : Nat → List RowD) (hN : vs.length ≤ 1000) (hn : ∀ (j : Nat) (v : SlV), vs[j]? = some v → v.n ≤ 1000000) (hrow : NRows 1 encSl (OwnB vs) w lo vs) (hlists : ListsAt w vs c0) (hap : Apart1 vs) :
    Calls Tryz.prog 24 #[.slice lo vs.length lcap] w fun e w' => e = .returned (.bool true) ∧ But (OwnB vs) w w' := by
  have HR := Lib.hid hrow; have HL := Lib.hid hlists; have HA := Lib.hid hap; have HN := Lib.hid hn
  obtain ⟨bb, hbb⟩ : ∃ bb, bb = w.heap.size := ⟨_, rfl⟩
  obtain ⟨wA, hwA⟩ : ∃ wA, wA = w.alloc (.cells #[.slice none 0 0, .slice none 0 0, .slice none 0 0, .slice none 0 0, .slice none 0 0, .slice none 0 0, .slice none 0 0, .slice none 0 0, .slice none 0 0, .slice none 0 0, .slice none 0 0, .slice none 0 0, .slice none 0 0, .slice none 0 0, .slice none 0 0, .slice none 0 0, .slice none 0 0, .slice none 0 0, .slice none 0 0, .slice none 0 0, .slice none 0 0, .slice none 0 0] 137) := ⟨_, rfl⟩
  have BA : Hid (Blk wA bb [.slice none 0 0, .slice none 0 0, .slice none 0 0, .slice none 0 0, .slice none 0 0, .slice none 0 0, .slice none 0 0, .slice none 0 0, .slice none 0 0, .slice none 0 0, .slice none 0 0, .slice none 0 0, .slice none 0 0, .slice none 0 0, .slice none 0 0, .slice none 0 0, .slice none 0 0, .slice none 0 0, .slice none 0 0, .slice none 0 0, .slice none 0 0, .slice none 0 0] 137) := Lib.hid (by rw [hwA, hbb]; exact Blk.new w _ _)
  have XA : Hid (Ext w wA) := Lib.hid (by rw [hwA]; exact (Below.refl _ w).alloc (Nat.le_refl _) _)
  have WA := Lib.hid hwA; have HBB := Lib.hid hbb
  clear hrow hlists hap hn hwA hbb
  go_enter Tryz.func24, Tryz.ntmps24
  go_wp2_with fail
  rw [← WA.out, ← HBB.out]
  go_loopw [4] (fun i wr => ∃ k : Nat, k ≤ vs.length ∧ i = .int .i64 k ∧ BagMid w bb vs k wr) (fun i _ => vs.length - (intOf i).toNat)
  case atStart => exact ⟨0, by omega, rfl, none, 0, BA.out, World.ownsRow_nil _ _ _ _, XA.out⟩
  case round =>
    obtain ⟨k, hk, rfl, hmid⟩ := hrel
    obtain ⟨so, cap, hb, hown, hx⟩ := hmid.out
    have B1 := Lib.hid hb; have O1 := Lib.hid hown; have X1 := Lib.hid hx
    clear hmid hb hown hx
    by_cases hlt : k < vs.length
    · obtain ⟨v, hv⟩ : ∃ v, vs[k]? = some v := ⟨_, List.getElem?_eq_getElem hlt⟩
      obtain ⟨b, off, rfl, -, -, hcell⟩ := outer_cell (HR.out.step (Ext.but X1.out (fun _ => False)) (no' := OwnB vs) (fun _ _ e => e.elim) (fun _ _ e => e)) hv
      have PC := Lib.hid (putLines_calls v bb k cap so _ w wr (by omega) B1.out (by rw [HBB.out]; exact Nat.le_refl _) O1.out X1.out)
      have TK : Hid ((vs.take (k + 1)).flatMap encSl = (vs.take k).flatMap encSl ++ encSl v) := Lib.hid (by rw [List.take_add_one, hv, Option.toList_some, List.flatMap_append]; simp)
      have i0 : (0 : Int) ≤ (k : Int) := by omega
      have i1 : (k : Int) < (vs.length : Int) := by omega
      clear hv
      go_wp2_with fail
      refine PC.out.mono ?_
      rintro e w2 ⟨rfl, so2, cap2, hb2, ho2, hx2⟩
      have B2 := Lib.hid hb2; have O2 := Lib.hid ho2; have X2 := Lib.hid hx2
      clear hb2 ho2 hx2 hcell
      go_wp2_with fail
      go_roundw
      case rel => exact ⟨k + 1, by omega, by go_num, so2, cap2, B2.out, by rw [TK.out]; exact O2.out, X2.out⟩
      case measure => simp [intOf]; omega
    · obtain rfl : k = vs.length := by omega
      have hall : vs.take vs.length = vs := List.take_of_length_le (Nat.le_refl _)
      rw [hall] at O1
      have hrow2 : NRows 1 encSl (OwnB vs) wr so vs := by
        intro hne
        obtain ⟨g, off, e, hg, hc⟩ := rows_of_own (enc := encSl) (sz := 1) (fun _ => rfl) O1.out hne
        subst e
        exact ⟨g, off, rfl, hg, fun ho => by
          have h1 := HL.out.lt ho
          have h2 := own_ge O1.out g rfl
          omega, hc⟩
      have BC := Lib.hid (bagLines_calls vs so cap bb wr c0 hN HN.out B1.out (fun ho => by have h1 := HL.out.lt ho; have h2 := HBB.out; omega) hrow2 (HL.out.ext X1.out) HA.out)
      clear hall hrow2
      go_wp2_with fail
      refine BC.out.mono ?_
      rintro e w2 ⟨rfl, hx2⟩
      have X2 := Lib.hid ((Ext.but X1.out (OwnB vs)).trans hx2 (fun _ _ e => e) (fun _ _ e => e))
      clear hx2
      go_wp2_with fail
      go_ret
      exact ⟨rfl, X2.out⟩
end Go.Proofs.YtngahblgicjoiaaGreatDoor
/- WitnessDoes: the walk. -/
namespace Go.Proofs.YtngahblgicjoiaaGreatDoor
open Go.RowKit

theorem nrows_atD {α : Type} {sz : Nat} {enc : α → List Value} {no : Nat → Prop} {w : World} {g : Nat} {l : List α} (h : Rows sz enc w.heap.size w (some ⟨g, 0, none⟩) l) (hn : ¬ no g) : NRows sz enc no w (some ⟨g, 0, none⟩) l := by
  intro hl
  obtain ⟨b, off, e, hb, hc⟩ := h hl
  cases e
  exact ⟨g, 0, rfl, hb, hn, hc⟩
theorem linesN_few {most : Nat} : ∀ (l : List RowD) (n : Nat), linesN most n l ≤ most → n + l.length ≤ linesN most n l
  | [], n, _ => by simp [linesN]
  | x :: l, n, h => by
    rw [linesN] at h ⊢
    split at h
    · rename_i hn
      rw [if_pos hn]
      have := linesN_few l _ h
      simp only [List.length_cons]
      omega
    · rename_i hn
      exact absurd h (by omega)
theorem doS_few {rows : List RowD} {x : StepD} (hx : x.ok) (h : ∀ r ∈ rows, r.ok) : (∀ r ∈ (doS rows x).1, r.ok) ∧ (doS rows x).1.length ≤ rows.length + x.acts.length ∧ (doS rows x).2.length ≤ x.acts.length := by
  unfold doS
  split
  · exact ⟨(doneK_ok hx.acts h).1, (doneK_ok hx.acts h).2, tell_len _ _⟩
  · exact ⟨h, by simp, by simp⟩

set_option maxRecDepth 100000 in
set_option maxHeartbeats 3200000 in
theorem doesW_calls (l : List RowD) (ao : Option Addr) (cap : Nat) (z : StepZ) (w : World) (hl : l.length ≤ 9223372036854775807) (hr : Rows 2 encRw w.heap.size w ao l) (hok : ∀ r ∈ l, r.ok) (hz : z.at w.heap.size w) (hsm : z.d.small) (hlv : LV w.heap.size w) :
    Calls Tryz.prog 4 #[.slice ao l.length cap, .agg (encStep z).toArray] w fun e w' => e = .returned (.bool true) ∧ Ext w w' := by
  have HR := Lib.hid hr; have HOK := Lib.hid hok; have HLV := Lib.hid hlv
  have ZA := Lib.hid (fun W (hW : Ext w W) => (hz.ext hW).mono hW.size)
  have AW := Lib.hid (fun W (hW : Ext w W) => awake_calls W ((HLV.out.below hW).up hW.size))
  have SM := Lib.hid hsm
  obtain ⟨wA, hwA⟩ : ∃ wA, wA = w.alloc (.cells (encStep z).toArray 38) := ⟨_, rfl⟩
  have BA : Hid (Blk wA w.heap.size (encStep z) 38) := Lib.hid (by rw [hwA]; exact Blk.new w _ _)
  have XA : Hid (Ext w wA) := Lib.hid (by rw [hwA]; exact (Below.refl _ w).alloc (Nat.le_refl _) _)
  -- what the walk is told of the step
  have GC := Lib.hid (fun W (sa : Option Addr) (hs : StepsAt W sa [z]) => (great_calls [z] sa 1 W (by simp) hs (fun y hy => by rw [List.mem_singleton] at hy; rw [hy]; exact SM.out)).mono (R' := fun e w' => e = .returned (.bool (greatD [z.d])) ∧ Ext W w') (fun _ _ h => h))
  have DPC := Lib.hid (fun W (hW : Ext w W) (ro : Option Addr) (rc : Nat) (h1 : l.length ≤ 90000) (h2 : Rows 2 encRw W.heap.size W ro l) (hd : z.d.ok) => doP_calls l ro rc z W (by omega) h2 HOK.out (ZA.out W hW) hd ((HLV.out.below hW).up hW.size))
  have RDC := Lib.hid (fun W (hW : Ext w W) (h1 : l.length ≤ 90000) (hd : z.d.ok) => refDoP_calls l ao cap z W h1 ((HR.out.ext hW).mono hW.size) HOK.out (ZA.out W hW) hd)
  have TC := Lib.hid (fun W (sa : Option Addr) (hs : StepsAt W sa [z]) => (turned_calls [z] sa 1 W (by simp) hs).mono (R' := fun e w' => ∃ b off c, e = .returned (.slice (some ⟨b, off, none⟩) 1 c) ∧ (∀ (j : Nat) (u : Value), (encStep z)[j]? = some u → w'.cell? ⟨b, off + j, none⟩ = some u) ∧ Ext W w') (fun e w' ⟨so, c, h1, _, h2, h3⟩ => by
    obtain ⟨b, off, rfl, _, hc⟩ := h2.1 (by simp)
    exact ⟨b, off, c, h1, fun j u hj => by have := hc 0 z rfl j u hj; simpa using this, h3⟩))
  have ST := Lib.hid (fun W (hW : Ext w W) => (⟨⟨rows_one (Blk.new W (encStep z) 38), fun y hy => by
      rw [List.mem_singleton] at hy; rw [hy]
      exact ZA.out _ (Ext.trans hW ((Below.refl _ W).alloc (Nat.le_refl _) _))⟩, (Below.refl _ W).alloc (Nat.le_refl _) _⟩ : StepsAt (W.alloc (.cells (encStep z).toArray 38)) (some ⟨W.heap.size, 0, none⟩) [z] ∧ Ext W (W.alloc (.cells (encStep z).toArray 38))))
  have GF := Lib.hid (fun (h : greatD [z.d] = false) => (great_few h).2 z.d (by simp))
  have DF := Lib.hid (fun (hd : z.d.ok) => doS_few hd HOK.out)
  have WA := Lib.hid hwA
  have HS1 : Hid (wA.heap.size = w.heap.size + 1) := Lib.hid (by rw [hwA]; simp)
  clear hr hok hz hsm hlv hwA
  obtain ⟨d, zao, zac, zro, zrc⟩ := z
  unfold encStep at BA DPC RDC TC ST WA ⊢
  simp only at BA DPC RDC TC ST WA GC GF DF SM
  obtain ⟨hst1, hxs1⟩ := ST.out wA XA.out
  rw [HS1.out] at hst1
  have S1 := Lib.hid hst1; have XS1 := Lib.hid (Ext.trans XA.out hxs1)
  clear hst1 hxs1
  go_enter Tryz.func4, Tryz.ntmps4
  go_wp2_with fail
  rw [← WA.out]
  refine (GC.out _ _ S1.out).mono ?_
  rintro e w1 ⟨rfl, hx1⟩
  have X1 := Lib.hid (Ext.trans XS1.out hx1)
  have hxA1 : Hid (Ext wA w1) := Lib.hid (Ext.trans (by rw [← HS1.out] at *; exact (Below.refl _ wA).alloc (Nat.le_refl _) _) hx1)
  clear hx1 S1
  cases hgr : greatD [d]
  case true =>
    clear hgr
    go_wp2_with fail
    refine (AW.out _ X1.out).mono ?_
    rintro e w2 ⟨rfl, hx2⟩
    have X2 := Lib.hid (Ext.trans X1.out hx2)
    clear hx2
    go_wp2_with fail
    go_ret
    exact ⟨rfl, X2.out⟩
  case false =>
    have hdf := GF.out hgr
    have OKD : Hid d.ok := Lib.hid (SM.out.ok (by omega) (by omega))
    have AL := Lib.hid hdf.1
    clear hgr hdf
    have hLO := linesOf_calls l ao cap 1000 w1 (by omega) hl ((HR.out.ext X1.out).mono X1.out.size) HOK.out
    simp only [Int.cast_ofNat_Int] at hLO
    have hfew := linesN_few (most := 1000) l 0
    obtain ⟨N, hN⟩ : ∃ N, linesN 1000 0 l = N := ⟨_, rfl⟩
    rw [hN] at hLO hfew
    have LO := Lib.hid hLO; have LF := Lib.hid hfew
    clear hLO hfew hN
    go_wp2_with fail
    refine LO.out.mono ?_
    rintro e w2 ⟨rfl, hx2⟩
    have X2 := Lib.hid (Ext.trans X1.out hx2); have XA2 := Lib.hid (Ext.trans hxA1.out hx2)
    clear hx2 LO
    by_cases hbig : 1000 < N
    · have g1 : decide ((1000 : Int) < (N : Int)) = true := by simp; omega
      go_wp2_with fail
      refine (AW.out _ X2.out).mono ?_
      rintro e w3 ⟨rfl, hx3⟩
      have X3 := Lib.hid (Ext.trans X2.out hx3)
      clear hx3
      go_wp2_with fail
      go_ret
      exact ⟨rfl, X3.out⟩
    · have g1 : decide ((1000 : Int) < (N : Int)) = false := by simp; omega
      have hll : l.length ≤ 1000 := by have := LF.out (by omega); omega
      clear hbig LF
      have CB := Lib.hid (fun W (hW : Ext wA W) => BA.out.ext' hW)
      go_wp2_with fail
      refine (lentLines_calls l ao cap w2 (by omega) ((HR.out.ext X2.out).mono X2.out.size)).mono ?_
      rintro e w3 ⟨g, cp, rfl, hcp, hmp, hlr, hgn, hx3⟩
      have X3 := Lib.hid (Ext.trans X2.out hx3); have XA3 := Lib.hid (Ext.trans XA2.out hx3)
      have LR := Lib.hid hlr; have HCP := Lib.hid hcp; have HMP := Lib.hid hmp
      have IN : Hid (∀ W, Ext w3 W → Rows 2 encRw W.heap.size W (some ⟨g, 0, none⟩) l) := Lib.hid (fun W hW => by
        have h := ((hlr.ext hW).mono hW.size).take l.length
        rwa [List.take_left' rfl] at h)
      have hb := CB.out w3 XA3.out
      have c0 := hb.cell 0; have c1 := hb.cell 1; have c2 := hb.cell 2; have c3 := hb.cell 3; have c4 := hb.cell 4; have c5 := hb.cell 5
      simp only [List.getElem?_cons_zero, List.getElem?_cons_succ] at c0 c1 c2 c3 c4 c5
      clear hlr hcp hmp hx3 hb hgn g1
      go_wp2_with fail
      refine (DPC.out w3 X3.out _ _ (by omega) (IN.out w3 (Below.refl _ _)) OKD.out).mono ?_
      obtain ⟨P, hP⟩ : ∃ P, doS l d = P := ⟨_, rfl⟩
      have hdf := DF.out OKD.out
      rw [hP] at hdf ⊢
      have hdl : P.1.length ≤ 10000 ∧ P.2.length ≤ 1000000 := by
        have h1 := AL.out
        have h2 := hdf.2.1
        have h3 := hdf.2.2
        omega
      have PO := Lib.hid hdf.1; have PL := Lib.hid hdl; have HP := Lib.hid hP
      clear hdf hdl hP
      rintro e w4 ⟨v4, rv4, rfl, hv4, hrv4, hx4⟩
      obtain ⟨o4, p4, rfl, -, -, -⟩ := Rows.own (enc := encRw) (sz := 2) (fun _ => rfl) hv4
      obtain ⟨q4, s4, rfl, -, -, -⟩ := Rows.own (enc := encRd) (sz := 3) (fun _ => rfl) hrv4
      have V4 := Lib.hid hv4; have R4 := Lib.hid hrv4; have X4 := Lib.hid (Ext.trans X3.out hx4); have XA4 := Lib.hid (Ext.trans XA3.out hx4); have Y4 := Lib.hid hx4
      obtain ⟨hst4, hxs4⟩ := ST.out w4 X4.out
      have S4 := Lib.hid hst4; have E4 := Lib.hid hxs4
      have hb := CB.out w4 XA4.out
      clear hv4 hrv4 hx4 hst4 hxs4 c0 c1 c2 c3 c4 c5
      have c0 := hb.cell 0; have c1 := hb.cell 1; have c2 := hb.cell 2; have c3 := hb.cell 3; have c4 := hb.cell 4; have c5 := hb.cell 5
      simp only [List.getElem?_cons_zero, List.getElem?_cons_succ] at c0 c1 c2 c3 c4 c5
      clear hb
      go_wp2_with fail
      refine (TC.out _ _ S4.out).mono ?_
      rintro e w5 ⟨b5, f5, k5, rfl, hc5, hx5⟩
      have X5 := Lib.hid (Ext.trans X4.out (Ext.trans E4.out hx5)); have XA5 := Lib.hid (Ext.trans XA4.out (Ext.trans E4.out hx5)); have Y5 := Lib.hid (Ext.trans Y4.out (Ext.trans E4.out hx5)); have Z5 := Lib.hid (Ext.trans E4.out hx5)
      have d0 := hc5 0 _ rfl; have d1 := hc5 1 _ rfl; have d2 := hc5 2 _ rfl; have d3 := hc5 3 _ rfl; have d4 := hc5 4 _ rfl; have d5 := hc5 5 _ rfl
      simp only [Nat.add_zero] at d0
      clear hc5 hx5 c0 c1 c2 c3 c4 c5 S4
      go_wp2_with fail
      refine (RDC.out w5 X5.out (by omega) OKD.out).mono ?_
      rw [HP.out]
      rintro e w6 ⟨v6, rv6, rfl, hv6, hrv6, hx6⟩
      obtain ⟨o6, p6, rfl, -, -, hr6⟩ := Rows.own (enc := encRw) (sz := 2) (fun _ => rfl) hv6
      obtain ⟨q6, s6, rfl, -, -, ht6⟩ := Rows.own (enc := encRd) (sz := 3) (fun _ => rfl) hrv6
      have X6 := Lib.hid (Ext.trans X5.out hx6); have XA6 := Lib.hid (Ext.trans XA5.out hx6); have Y6 := Lib.hid (Ext.trans Y5.out hx6); have Z6 := Lib.hid (Ext.trans Z5.out hx6)
      have R6 := Lib.hid hr6; have T6 := Lib.hid ht6
      have hb := CB.out w6 XA6.out
      clear hv6 hrv6 hx6 hr6 ht6 d0 d1 d2 d3 d4 d5
      have c0 := hb.cell 0; have c1 := hb.cell 1; have c2 := hb.cell 2; have c3 := hb.cell 3; have c4 := hb.cell 4; have c5 := hb.cell 5
      simp only [List.getElem?_cons_zero, List.getElem?_cons_succ] at c0 c1 c2 c3 c4 c5
      clear hb
      go_wp2_with fail
      refine (DPC.out w6 X6.out _ _ (by omega) (IN.out w6 Y6.out) OKD.out).mono ?_
      rw [HP.out]
      rintro e w7 ⟨v7, rv7, rfl, hv7, -, hx7⟩
      obtain ⟨o7, p7, rfl, -, -, -⟩ := Rows.own (enc := encRw) (sz := 2) (fun _ => rfl) hv7
      have V7 := Lib.hid hv7; have X7 := Lib.hid (Ext.trans X6.out hx7); have Y7 := Lib.hid (Ext.trans Y6.out hx7); have Z7 := Lib.hid (Ext.trans Z6.out hx7); have U7 := Lib.hid hx7
      clear hv7 hx7 c0 c1 c2 c3 c4 c5
      go_wp2_with fail
      have hSL := sameLines_calls P.1 P.1 o4 o6 p4 p6 w7 (by have := PL.out.1; omega) (rows_of_own (fun _ => rfl) (own_ext V4.out Z7.out)) ((R6.out.ext U7.out).mono U7.out.size)
      rw [decide_eq_true rfl] at hSL
      refine hSL.mono ?_
      rintro e w8 ⟨rfl, hx8⟩
      have X8 := Lib.hid (Ext.trans X7.out hx8); have Y8 := Lib.hid (Ext.trans Y7.out hx8); have Z8 := Lib.hid (Ext.trans Z7.out hx8); have U8 := Lib.hid (Ext.trans U7.out hx8); have Q8 := Lib.hid hx8
      clear hx8 hSL
      go_wp2_with fail
      have hSR := sameReads_calls P.2 P.2 q4 q6 s4 s6 w8 PL.out.2 (rows_of_own (fun _ => rfl) (own_ext R4.out Z8.out)) ((T6.out.ext U8.out).mono U8.out.size)
      rw [decide_eq_true rfl] at hSR
      refine hSR.mono ?_
      rintro e w9 ⟨rfl, hx9⟩
      have X9 := Lib.hid (Ext.trans X8.out hx9); have Y9 := Lib.hid (Ext.trans Y8.out hx9); have Z9 := Lib.hid (Ext.trans Z8.out hx9); have Q9 := Lib.hid (Ext.trans Q8.out hx9)
      clear hx9 hSR
      go_wp2_with fail
      refine (keptLines_calls l g cp ao cap w9 (by omega) HCP.out HMP.out ((LR.out.ext Y9.out).mono Y9.out.size) ((HR.out.ext X9.out).mono X9.out.size)).mono ?_
      rintro e w10 ⟨rfl, hx10⟩
      have X10 := Lib.hid (Ext.trans X9.out hx10); have Y10 := Lib.hid (Ext.trans Y9.out hx10); have Z10 := Lib.hid (Ext.trans Z9.out hx10); have Q10 := Lib.hid (Ext.trans Q9.out hx10)
      clear hx10
      obtain ⟨vs, hvs⟩ : ∃ vs : List SlV, vs = [⟨o4, P.1.length, p4⟩, ⟨o7, P.1.length, p7⟩] := ⟨_, rfl⟩
      obtain ⟨wE, hwE⟩ : ∃ wE, wE = w10.alloc (.cells #[.slice o4 P.1.length p4, .slice o7 P.1.length p7] 32) := ⟨_, rfl⟩
      have hxE : Ext w10 wE := by rw [hwE]; exact (Below.refl _ w10).alloc (Nat.le_refl _) _
      have v4E := own_ext V4.out (Ext.trans Z10.out hxE)
      have v7E := own_ext V7.out (Ext.trans Q10.out hxE)
      have hat : ∀ (j : Nat) (v : SlV), vs[j]? = some v → (j = 0 ∧ v = ⟨o4, P.1.length, p4⟩) ∨ (j = 1 ∧ v = ⟨o7, P.1.length, p7⟩) := fun j v hv => by
        rw [hvs] at hv
        match j, hv with
        | 0, hv => exact .inl ⟨rfl, (Option.some.inj hv).symm⟩
        | 1, hv => exact .inr ⟨rfl, (Option.some.inj hv).symm⟩
      have hl4 : ∀ b, (Value.slice o4 P.1.length p4).ownBlock = some b → w3.heap.size ≤ b ∧ b < w4.heap.size := fun b hb => V4.out.lt b hb
      have hl7 : ∀ b, (Value.slice o7 P.1.length p7).ownBlock = some b → w6.heap.size ≤ b ∧ b < w7.heap.size := fun b hb => V7.out.lt b hb
      have hs46 := Z6.out.size
      have hs36 := Y6.out.size
      have hs47 := Z10.out.size
      have hs77 := Q10.out.size
      have hob : ∀ b, OwnB vs b → w3.heap.size ≤ b ∧ b < w10.heap.size := fun b hb => by
        obtain ⟨j, v, hv, hb⟩ := hb
        rcases hat j v hv with ⟨_, rfl⟩ | ⟨_, rfl⟩
        · have := hl4 b hb; omega
        · have := hl7 b hb; omega
      have hlists : ListsAt wE vs (fun _ => P.1) := fun j v hv => by
        rcases hat j v hv with ⟨_, rfl⟩ | ⟨_, rfl⟩
        · exact ⟨rfl, own_base v4E (fun _ _ => Nat.zero_le _)⟩
        · exact ⟨rfl, own_base v7E (fun _ _ => Nat.zero_le _)⟩
      have hap : Apart1 vs := fun i j u v hij hu hv b hb hb2 => by
        rcases hat i u hu with ⟨hi, rfl⟩ | ⟨hi, rfl⟩ <;> rcases hat j v hv with ⟨hj, rfl⟩ | ⟨hj, rfl⟩
        · omega
        · have := hl4 b hb; have := hl7 b hb2; omega
        · have := hl7 b hb; have := hl4 b hb2; omega
        · omega
      have hrow : NRows 1 encSl (OwnB vs) wE (some ⟨w10.heap.size, 0, none⟩) vs := nrows_atD (rows_blk (enc := encSl) (sz := 1) (fun _ => rfl) (t := 32) (by rw [hwE, hvs]; exact Blk.new w10 _ _) (by rw [hvs]; simp)) (fun ho => by have := hob _ ho; omega)
      have AC := Lib.hid (apartLines_calls vs (some ⟨w10.heap.size, 0, none⟩) 2 wE (fun _ => P.1) (by rw [hvs]; simp) (fun j v hv => by
        have := PL.out.1
        rcases hat j v hv with ⟨_, rfl⟩ | ⟨_, rfl⟩ <;> (simp only; omega)) hrow hlists hap)
      have hvl : vs.length = 2 := by rw [hvs]; rfl
      rw [hvl] at AC
      have WE := Lib.hid hwE; have XE := Lib.hid hxE; have OB := Lib.hid hob
      clear hvs hwE hxE v4E v7E hat hl4 hl7 hs46 hs36 hs47 hs77 hob hlists hap hrow hvl
      go_wp2_with fail
      rw [← WE.out]
      refine AC.out.mono ?_
      rintro e w11 ⟨rfl, hx11⟩
      have hE := Ext.trans Y10.out XE.out
      have LR11 : Hid (Rows 2 encRw w11.heap.size w11 (some ⟨g, 0, none⟩) (l ++ marksLines)) := Lib.hid (((LR.out.ext hE).but hx11 hE.size (fun k hk e => by have := OB.out k e; omega)).mono (Nat.le_trans hE.size hx11.size))
      have B11 := Lib.hid (show Below w.heap.size w w11 from Below.trans (Ext.trans X10.out XE.out) (hx11.below (Ext.trans X10.out XE.out).size (fun i e => by have h1 := OB.out i e; have h2 := X3.out.size; omega)))
      clear hx11 hE
      go_wp2_with fail
      refine (keptLines_calls l g cp ao cap w11 (by omega) HCP.out HMP.out LR11.out ((HR.out.ext B11.out).mono B11.out.size)).mono ?_
      rintro e w12 ⟨rfl, hx12⟩
      have X12 := Lib.hid (Ext.trans B11.out hx12)
      clear hx12
      go_wp2_with fail
      refine (AW.out _ X12.out).mono ?_
      rintro e w13 ⟨rfl, hx13⟩
      have X13 := Lib.hid (Ext.trans X12.out hx13)
      clear hx13
      go_wp2_with fail
      go_ret
      exact ⟨rfl, X13.out⟩
end Go.Proofs.YtngahblgicjoiaaGreatDoor
