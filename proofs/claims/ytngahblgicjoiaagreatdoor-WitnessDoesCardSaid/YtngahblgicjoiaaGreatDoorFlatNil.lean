/- The kit's flatX, each at no list. -/
import Derived.Test.YtngahblgicjoiaaGreatDoorOwnH
import Derived.Laws.OwnMore
namespace Go.Proofs.YtngahblgicjoiaaGreatDoor
open Go.RowKit

theorem infoLimbs : (Tryz.prog.info? 238).map (fun i => (i.zero, i.size, i.bytes)) = some (some (.slice none 0 0), 1, 24) := by kernel_rfl
set_option maxRecDepth 100000 in
theorem nilLimbs (w : World) : Calls Tryz.prog 109 #[.slice none 0 0] w fun e w' => e = .returned (.bool true) ∧ Ext w w' := by
  obtain ⟨i0, hi, hz0, hz1, hz2⟩ := info_parts infoLimbs
  go_enter Tryz.func109, Tryz.ntmps109
  go_wp2_with fail
  go_loopw [3] (fun i wr => i = .int .i64 0 ∧ Ext w wr) (fun _ _ => 0)
  case atStart => exact ⟨rfl, Below.refl _ _⟩
  case round =>
    obtain ⟨rfl, hx⟩ := hrel
    obtain ⟨wm, hmk, -, hg⟩ := run_make_full (P := Tryz.prog) wr 0 117 238 i0 _ 1 Tryz.underlying117 hi hz0 hz1 .i64 .i64 0 (by rw [hz2]; omega) (by unfold maxLen; omega) (Nat.zero_le _)
    have X := Lib.hid (Ext.trans hx (⟨hg.os, hg.tape, hg.output, hg.size, fun k hk => hg.block k hk (fun e => by cases e)⟩ : Ext wr wm))
    clear hx hg hi hz0 hz1 hz2
    simp only [Int.ofNat_zero] at hmk
    go_wp2_with fail
    go_loopw [6] (fun i wr => i = .int .i64 0 ∧ Ext w wr) (fun _ _ => 0)
    case atStart => exact ⟨rfl, X.out⟩
    case round =>
      obtain ⟨rfl, hx⟩ := hrel
      go_wp2_with fail
      go_loopw [9] (fun i wr => i = .int .i64 0 ∧ Ext w wr) (fun _ _ => 0)
      case atStart => exact ⟨rfl, hx⟩
      case round =>
        obtain ⟨rfl, hx⟩ := hrel
        go_wp2_with fail
        go_loopw [11] (fun i wr => i = .int .i64 0 ∧ Ext w wr) (fun _ _ => 0)
        case atStart => exact ⟨rfl, hx⟩
        case round =>
          obtain ⟨rfl, hx⟩ := hrel
          go_wp2_with fail
          go_loopw [14] (fun i wr => i = .int .i64 0 ∧ Ext w wr) (fun _ _ => 0)
          case atStart => exact ⟨rfl, hx⟩
          case round =>
            obtain ⟨rfl, hx⟩ := hrel
            go_wp2_with fail
            go_ret
            exact ⟨rfl, hx⟩
theorem infoWords : (Tryz.prog.info? 240).map (fun i => (i.zero, i.size, i.bytes)) = some (some (.slice none 0 0), 1, 24) := by kernel_rfl
set_option maxRecDepth 100000 in
theorem nilWords (w : World) : Calls Tryz.prog 110 #[.slice none 0 0] w fun e w' => e = .returned (.bool true) ∧ Ext w w' := by
  obtain ⟨i0, hi, hz0, hz1, hz2⟩ := info_parts infoWords
  go_enter Tryz.func110, Tryz.ntmps110
  go_wp2_with fail
  go_loopw [3] (fun i wr => i = .int .i64 0 ∧ Ext w wr) (fun _ _ => 0)
  case atStart => exact ⟨rfl, Below.refl _ _⟩
  case round =>
    obtain ⟨rfl, hx⟩ := hrel
    obtain ⟨wm, hmk, -, hg⟩ := run_make_full (P := Tryz.prog) wr 0 118 240 i0 _ 1 Tryz.underlying118 hi hz0 hz1 .i64 .i64 0 (by rw [hz2]; omega) (by unfold maxLen; omega) (Nat.zero_le _)
    have X := Lib.hid (Ext.trans hx (⟨hg.os, hg.tape, hg.output, hg.size, fun k hk => hg.block k hk (fun e => by cases e)⟩ : Ext wr wm))
    clear hx hg hi hz0 hz1 hz2
    simp only [Int.ofNat_zero] at hmk
    go_wp2_with fail
    go_loopw [6] (fun i wr => i = .int .i64 0 ∧ Ext w wr) (fun _ _ => 0)
    case atStart => exact ⟨rfl, X.out⟩
    case round =>
      obtain ⟨rfl, hx⟩ := hrel
      go_wp2_with fail
      go_loopw [9] (fun i wr => i = .int .i64 0 ∧ Ext w wr) (fun _ _ => 0)
      case atStart => exact ⟨rfl, hx⟩
      case round =>
        obtain ⟨rfl, hx⟩ := hrel
        go_wp2_with fail
        go_loopw [11] (fun i wr => i = .int .i64 0 ∧ Ext w wr) (fun _ _ => 0)
        case atStart => exact ⟨rfl, hx⟩
        case round =>
          obtain ⟨rfl, hx⟩ := hrel
          go_wp2_with fail
          go_loopw [14] (fun i wr => i = .int .i64 0 ∧ Ext w wr) (fun _ _ => 0)
          case atStart => exact ⟨rfl, hx⟩
          case round =>
            obtain ⟨rfl, hx⟩ := hrel
            go_wp2_with fail
            go_ret
            exact ⟨rfl, hx⟩
theorem infoInts : (Tryz.prog.info? 74).map (fun i => (i.zero, i.size, i.bytes)) = some (some (.slice none 0 0), 1, 24) := by kernel_rfl
set_option maxRecDepth 100000 in
theorem nilInts (w : World) : Calls Tryz.prog 111 #[.slice none 0 0] w fun e w' => e = .returned (.bool true) ∧ Ext w w' := by
  obtain ⟨i0, hi, hz0, hz1, hz2⟩ := info_parts infoInts
  go_enter Tryz.func111, Tryz.ntmps111
  go_wp2_with fail
  go_loopw [3] (fun i wr => i = .int .i64 0 ∧ Ext w wr) (fun _ _ => 0)
  case atStart => exact ⟨rfl, Below.refl _ _⟩
  case round =>
    obtain ⟨rfl, hx⟩ := hrel
    obtain ⟨wm, hmk, -, hg⟩ := run_make_full (P := Tryz.prog) wr 0 119 74 i0 _ 1 Tryz.underlying119 hi hz0 hz1 .i64 .i64 0 (by rw [hz2]; omega) (by unfold maxLen; omega) (Nat.zero_le _)
    have X := Lib.hid (Ext.trans hx (⟨hg.os, hg.tape, hg.output, hg.size, fun k hk => hg.block k hk (fun e => by cases e)⟩ : Ext wr wm))
    clear hx hg hi hz0 hz1 hz2
    simp only [Int.ofNat_zero] at hmk
    go_wp2_with fail
    go_loopw [6] (fun i wr => i = .int .i64 0 ∧ Ext w wr) (fun _ _ => 0)
    case atStart => exact ⟨rfl, X.out⟩
    case round =>
      obtain ⟨rfl, hx⟩ := hrel
      go_wp2_with fail
      go_loopw [9] (fun i wr => i = .int .i64 0 ∧ Ext w wr) (fun _ _ => 0)
      case atStart => exact ⟨rfl, hx⟩
      case round =>
        obtain ⟨rfl, hx⟩ := hrel
        go_wp2_with fail
        go_loopw [11] (fun i wr => i = .int .i64 0 ∧ Ext w wr) (fun _ _ => 0)
        case atStart => exact ⟨rfl, hx⟩
        case round =>
          obtain ⟨rfl, hx⟩ := hrel
          go_wp2_with fail
          go_loopw [14] (fun i wr => i = .int .i64 0 ∧ Ext w wr) (fun _ _ => 0)
          case atStart => exact ⟨rfl, hx⟩
          case round =>
            obtain ⟨rfl, hx⟩ := hrel
            go_wp2_with fail
            go_ret
            exact ⟨rfl, hx⟩
theorem infoLongs : (Tryz.prog.info? 242).map (fun i => (i.zero, i.size, i.bytes)) = some (some (.slice none 0 0), 1, 24) := by kernel_rfl
set_option maxRecDepth 100000 in
theorem nilLongs (w : World) : Calls Tryz.prog 112 #[.slice none 0 0] w fun e w' => e = .returned (.bool true) ∧ Ext w w' := by
  obtain ⟨i0, hi, hz0, hz1, hz2⟩ := info_parts infoLongs
  go_enter Tryz.func112, Tryz.ntmps112
  go_wp2_with fail
  go_loopw [3] (fun i wr => i = .int .i64 0 ∧ Ext w wr) (fun _ _ => 0)
  case atStart => exact ⟨rfl, Below.refl _ _⟩
  case round =>
    obtain ⟨rfl, hx⟩ := hrel
    obtain ⟨wm, hmk, -, hg⟩ := run_make_full (P := Tryz.prog) wr 0 120 242 i0 _ 1 Tryz.underlying120 hi hz0 hz1 .i64 .i64 0 (by rw [hz2]; omega) (by unfold maxLen; omega) (Nat.zero_le _)
    have X := Lib.hid (Ext.trans hx (⟨hg.os, hg.tape, hg.output, hg.size, fun k hk => hg.block k hk (fun e => by cases e)⟩ : Ext wr wm))
    clear hx hg hi hz0 hz1 hz2
    simp only [Int.ofNat_zero] at hmk
    go_wp2_with fail
    go_loopw [6] (fun i wr => i = .int .i64 0 ∧ Ext w wr) (fun _ _ => 0)
    case atStart => exact ⟨rfl, X.out⟩
    case round =>
      obtain ⟨rfl, hx⟩ := hrel
      go_wp2_with fail
      go_loopw [9] (fun i wr => i = .int .i64 0 ∧ Ext w wr) (fun _ _ => 0)
      case atStart => exact ⟨rfl, hx⟩
      case round =>
        obtain ⟨rfl, hx⟩ := hrel
        go_wp2_with fail
        go_loopw [11] (fun i wr => i = .int .i64 0 ∧ Ext w wr) (fun _ _ => 0)
        case atStart => exact ⟨rfl, hx⟩
        case round =>
          obtain ⟨rfl, hx⟩ := hrel
          go_wp2_with fail
          go_loopw [14] (fun i wr => i = .int .i64 0 ∧ Ext w wr) (fun _ _ => 0)
          case atStart => exact ⟨rfl, hx⟩
          case round =>
            obtain ⟨rfl, hx⟩ := hrel
            go_wp2_with fail
            go_ret
            exact ⟨rfl, hx⟩
theorem infoTexts : (Tryz.prog.info? 76).map (fun i => (i.zero, i.size, i.bytes)) = some (some (.slice none 0 0), 1, 24) := by kernel_rfl
set_option maxRecDepth 100000 in
theorem nilTexts (w : World) : Calls Tryz.prog 113 #[.slice none 0 0] w fun e w' => e = .returned (.bool true) ∧ Ext w w' := by
  obtain ⟨i0, hi, hz0, hz1, hz2⟩ := info_parts infoTexts
  go_enter Tryz.func113, Tryz.ntmps113
  go_wp2_with fail
  go_loopw [3] (fun i wr => i = .int .i64 0 ∧ Ext w wr) (fun _ _ => 0)
  case atStart => exact ⟨rfl, Below.refl _ _⟩
  case round =>
    obtain ⟨rfl, hx⟩ := hrel
    obtain ⟨wm, hmk, -, hg⟩ := run_make_full (P := Tryz.prog) wr 0 121 76 i0 _ 1 Tryz.underlying121 hi hz0 hz1 .i64 .i64 0 (by rw [hz2]; omega) (by unfold maxLen; omega) (Nat.zero_le _)
    have X := Lib.hid (Ext.trans hx (⟨hg.os, hg.tape, hg.output, hg.size, fun k hk => hg.block k hk (fun e => by cases e)⟩ : Ext wr wm))
    clear hx hg hi hz0 hz1 hz2
    simp only [Int.ofNat_zero] at hmk
    go_wp2_with fail
    go_loopw [6] (fun i wr => i = .int .i64 0 ∧ Ext w wr) (fun _ _ => 0)
    case atStart => exact ⟨rfl, X.out⟩
    case round =>
      obtain ⟨rfl, hx⟩ := hrel
      go_wp2_with fail
      go_loopw [9] (fun i wr => i = .int .i64 0 ∧ Ext w wr) (fun _ _ => 0)
      case atStart => exact ⟨rfl, hx⟩
      case round =>
        obtain ⟨rfl, hx⟩ := hrel
        go_wp2_with fail
        go_loopw [11] (fun i wr => i = .int .i64 0 ∧ Ext w wr) (fun _ _ => 0)
        case atStart => exact ⟨rfl, hx⟩
        case round =>
          obtain ⟨rfl, hx⟩ := hrel
          go_wp2_with fail
          go_loopw [14] (fun i wr => i = .int .i64 0 ∧ Ext w wr) (fun _ _ => 0)
          case atStart => exact ⟨rfl, hx⟩
          case round =>
            obtain ⟨rfl, hx⟩ := hrel
            go_wp2_with fail
            go_ret
            exact ⟨rfl, hx⟩
theorem infoBytes : (Tryz.prog.info? 89).map (fun i => (i.zero, i.size, i.bytes)) = some (some (.slice none 0 0), 1, 24) := by kernel_rfl
set_option maxRecDepth 100000 in
theorem nilBytes (w : World) : Calls Tryz.prog 114 #[.slice none 0 0] w fun e w' => e = .returned (.bool true) ∧ Ext w w' := by
  obtain ⟨i0, hi, hz0, hz1, hz2⟩ := info_parts infoBytes
  go_enter Tryz.func114, Tryz.ntmps114
  go_wp2_with fail
  go_loopw [3] (fun i wr => i = .int .i64 0 ∧ Ext w wr) (fun _ _ => 0)
  case atStart => exact ⟨rfl, Below.refl _ _⟩
  case round =>
    obtain ⟨rfl, hx⟩ := hrel
    obtain ⟨wm, hmk, -, hg⟩ := run_make_full (P := Tryz.prog) wr 0 122 89 i0 _ 1 Tryz.underlying122 hi hz0 hz1 .i64 .i64 0 (by rw [hz2]; omega) (by unfold maxLen; omega) (Nat.zero_le _)
    have X := Lib.hid (Ext.trans hx (⟨hg.os, hg.tape, hg.output, hg.size, fun k hk => hg.block k hk (fun e => by cases e)⟩ : Ext wr wm))
    clear hx hg hi hz0 hz1 hz2
    simp only [Int.ofNat_zero] at hmk
    go_wp2_with fail
    go_loopw [6] (fun i wr => i = .int .i64 0 ∧ Ext w wr) (fun _ _ => 0)
    case atStart => exact ⟨rfl, X.out⟩
    case round =>
      obtain ⟨rfl, hx⟩ := hrel
      go_wp2_with fail
      go_loopw [9] (fun i wr => i = .int .i64 0 ∧ Ext w wr) (fun _ _ => 0)
      case atStart => exact ⟨rfl, hx⟩
      case round =>
        obtain ⟨rfl, hx⟩ := hrel
        go_wp2_with fail
        go_loopw [11] (fun i wr => i = .int .i64 0 ∧ Ext w wr) (fun _ _ => 0)
        case atStart => exact ⟨rfl, hx⟩
        case round =>
          obtain ⟨rfl, hx⟩ := hrel
          go_wp2_with fail
          go_loopw [14] (fun i wr => i = .int .i64 0 ∧ Ext w wr) (fun _ _ => 0)
          case atStart => exact ⟨rfl, hx⟩
          case round =>
            obtain ⟨rfl, hx⟩ := hrel
            go_wp2_with fail
            go_ret
            exact ⟨rfl, hx⟩
theorem infoTruths : (Tryz.prog.info? 244).map (fun i => (i.zero, i.size, i.bytes)) = some (some (.slice none 0 0), 1, 24) := by kernel_rfl
set_option maxRecDepth 100000 in
theorem nilTruths (w : World) : Calls Tryz.prog 115 #[.slice none 0 0] w fun e w' => e = .returned (.bool true) ∧ Ext w w' := by
  obtain ⟨i0, hi, hz0, hz1, hz2⟩ := info_parts infoTruths
  go_enter Tryz.func115, Tryz.ntmps115
  go_wp2_with fail
  go_loopw [3] (fun i wr => i = .int .i64 0 ∧ Ext w wr) (fun _ _ => 0)
  case atStart => exact ⟨rfl, Below.refl _ _⟩
  case round =>
    obtain ⟨rfl, hx⟩ := hrel
    obtain ⟨wm, hmk, -, hg⟩ := run_make_full (P := Tryz.prog) wr 0 123 244 i0 _ 1 Tryz.underlying123 hi hz0 hz1 .i64 .i64 0 (by rw [hz2]; omega) (by unfold maxLen; omega) (Nat.zero_le _)
    have X := Lib.hid (Ext.trans hx (⟨hg.os, hg.tape, hg.output, hg.size, fun k hk => hg.block k hk (fun e => by cases e)⟩ : Ext wr wm))
    clear hx hg hi hz0 hz1 hz2
    simp only [Int.ofNat_zero] at hmk
    go_wp2_with fail
    go_loopw [6] (fun i wr => i = .int .i64 0 ∧ Ext w wr) (fun _ _ => 0)
    case atStart => exact ⟨rfl, X.out⟩
    case round =>
      obtain ⟨rfl, hx⟩ := hrel
      go_wp2_with fail
      go_loopw [9] (fun i wr => i = .int .i64 0 ∧ Ext w wr) (fun _ _ => 0)
      case atStart => exact ⟨rfl, hx⟩
      case round =>
        obtain ⟨rfl, hx⟩ := hrel
        go_wp2_with fail
        go_loopw [11] (fun i wr => i = .int .i64 0 ∧ Ext w wr) (fun _ _ => 0)
        case atStart => exact ⟨rfl, hx⟩
        case round =>
          obtain ⟨rfl, hx⟩ := hrel
          go_wp2_with fail
          go_loopw [14] (fun i wr => i = .int .i64 0 ∧ Ext w wr) (fun _ _ => 0)
          case atStart => exact ⟨rfl, hx⟩
          case round =>
            obtain ⟨rfl, hx⟩ := hrel
            go_wp2_with fail
            go_ret
            exact ⟨rfl, hx⟩
theorem infoSpans : (Tryz.prog.info? 245).map (fun i => (i.zero, i.size, i.bytes)) = some (some (.slice none 0 0), 1, 24) := by kernel_rfl
set_option maxRecDepth 100000 in
theorem nilSpans (w : World) : Calls Tryz.prog 116 #[.slice none 0 0] w fun e w' => e = .returned (.bool true) ∧ Ext w w' := by
  obtain ⟨i0, hi, hz0, hz1, hz2⟩ := info_parts infoSpans
  go_enter Tryz.func116, Tryz.ntmps116
  go_wp2_with fail
  go_loopw [3] (fun i wr => i = .int .i64 0 ∧ Ext w wr) (fun _ _ => 0)
  case atStart => exact ⟨rfl, Below.refl _ _⟩
  case round =>
    obtain ⟨rfl, hx⟩ := hrel
    obtain ⟨wm, hmk, -, hg⟩ := run_make_full (P := Tryz.prog) wr 0 124 245 i0 _ 1 Tryz.underlying124 hi hz0 hz1 .i64 .i64 0 (by rw [hz2]; omega) (by unfold maxLen; omega) (Nat.zero_le _)
    have X := Lib.hid (Ext.trans hx (⟨hg.os, hg.tape, hg.output, hg.size, fun k hk => hg.block k hk (fun e => by cases e)⟩ : Ext wr wm))
    clear hx hg hi hz0 hz1 hz2
    simp only [Int.ofNat_zero] at hmk
    go_wp2_with fail
    go_loopw [6] (fun i wr => i = .int .i64 0 ∧ Ext w wr) (fun _ _ => 0)
    case atStart => exact ⟨rfl, X.out⟩
    case round =>
      obtain ⟨rfl, hx⟩ := hrel
      go_wp2_with fail
      go_loopw [9] (fun i wr => i = .int .i64 0 ∧ Ext w wr) (fun _ _ => 0)
      case atStart => exact ⟨rfl, hx⟩
      case round =>
        obtain ⟨rfl, hx⟩ := hrel
        go_wp2_with fail
        go_loopw [11] (fun i wr => i = .int .i64 0 ∧ Ext w wr) (fun _ _ => 0)
        case atStart => exact ⟨rfl, hx⟩
        case round =>
          obtain ⟨rfl, hx⟩ := hrel
          go_wp2_with fail
          go_loopw [14] (fun i wr => i = .int .i64 0 ∧ Ext w wr) (fun _ _ => 0)
          case atStart => exact ⟨rfl, hx⟩
          case round =>
            obtain ⟨rfl, hx⟩ := hrel
            go_wp2_with fail
            go_ret
            exact ⟨rfl, hx⟩
theorem infoShareRows : (Tryz.prog.info? 86).map (fun i => (i.zero, i.size, i.bytes)) = some (some (.slice none 0 0), 1, 24) := by kernel_rfl
set_option maxRecDepth 100000 in
theorem nilShareRows (w : World) : Calls Tryz.prog 117 #[.slice none 0 0] w fun e w' => e = .returned (.bool true) ∧ Ext w w' := by
  obtain ⟨i0, hi, hz0, hz1, hz2⟩ := info_parts infoShareRows
  go_enter Tryz.func117, Tryz.ntmps117
  go_wp2_with fail
  go_loopw [3] (fun i wr => i = .int .i64 0 ∧ Ext w wr) (fun _ _ => 0)
  case atStart => exact ⟨rfl, Below.refl _ _⟩
  case round =>
    obtain ⟨rfl, hx⟩ := hrel
    obtain ⟨wm, hmk, -, hg⟩ := run_make_full (P := Tryz.prog) wr 0 125 86 i0 _ 1 Tryz.underlying125 hi hz0 hz1 .i64 .i64 0 (by rw [hz2]; omega) (by unfold maxLen; omega) (Nat.zero_le _)
    have X := Lib.hid (Ext.trans hx (⟨hg.os, hg.tape, hg.output, hg.size, fun k hk => hg.block k hk (fun e => by cases e)⟩ : Ext wr wm))
    clear hx hg hi hz0 hz1 hz2
    simp only [Int.ofNat_zero] at hmk
    go_wp2_with fail
    go_loopw [6] (fun i wr => i = .int .i64 0 ∧ Ext w wr) (fun _ _ => 0)
    case atStart => exact ⟨rfl, X.out⟩
    case round =>
      obtain ⟨rfl, hx⟩ := hrel
      go_wp2_with fail
      go_loopw [9] (fun i wr => i = .int .i64 0 ∧ Ext w wr) (fun _ _ => 0)
      case atStart => exact ⟨rfl, hx⟩
      case round =>
        obtain ⟨rfl, hx⟩ := hrel
        go_wp2_with fail
        go_loopw [11] (fun i wr => i = .int .i64 0 ∧ Ext w wr) (fun _ _ => 0)
        case atStart => exact ⟨rfl, hx⟩
        case round =>
          obtain ⟨rfl, hx⟩ := hrel
          go_wp2_with fail
          go_loopw [14] (fun i wr => i = .int .i64 0 ∧ Ext w wr) (fun _ _ => 0)
          case atStart => exact ⟨rfl, hx⟩
          case round =>
            obtain ⟨rfl, hx⟩ := hrel
            go_wp2_with fail
            go_ret
            exact ⟨rfl, hx⟩
theorem infoSharesRows : (Tryz.prog.info? 250).map (fun i => (i.zero, i.size, i.bytes)) = some (some (.slice none 0 0), 1, 24) := by kernel_rfl
set_option maxRecDepth 100000 in
theorem nilSharesRows (w : World) : Calls Tryz.prog 118 #[.slice none 0 0] w fun e w' => e = .returned (.bool true) ∧ Ext w w' := by
  obtain ⟨i0, hi, hz0, hz1, hz2⟩ := info_parts infoSharesRows
  go_enter Tryz.func118, Tryz.ntmps118
  go_wp2_with fail
  go_loopw [3] (fun i wr => i = .int .i64 0 ∧ Ext w wr) (fun _ _ => 0)
  case atStart => exact ⟨rfl, Below.refl _ _⟩
  case round =>
    obtain ⟨rfl, hx⟩ := hrel
    obtain ⟨wm, hmk, -, hg⟩ := run_make_full (P := Tryz.prog) wr 0 126 250 i0 _ 1 Tryz.underlying126 hi hz0 hz1 .i64 .i64 0 (by rw [hz2]; omega) (by unfold maxLen; omega) (Nat.zero_le _)
    have X := Lib.hid (Ext.trans hx (⟨hg.os, hg.tape, hg.output, hg.size, fun k hk => hg.block k hk (fun e => by cases e)⟩ : Ext wr wm))
    clear hx hg hi hz0 hz1 hz2
    simp only [Int.ofNat_zero] at hmk
    go_wp2_with fail
    go_loopw [6] (fun i wr => i = .int .i64 0 ∧ Ext w wr) (fun _ _ => 0)
    case atStart => exact ⟨rfl, X.out⟩
    case round =>
      obtain ⟨rfl, hx⟩ := hrel
      go_wp2_with fail
      go_loopw [9] (fun i wr => i = .int .i64 0 ∧ Ext w wr) (fun _ _ => 0)
      case atStart => exact ⟨rfl, hx⟩
      case round =>
        obtain ⟨rfl, hx⟩ := hrel
        go_wp2_with fail
        go_loopw [11] (fun i wr => i = .int .i64 0 ∧ Ext w wr) (fun _ _ => 0)
        case atStart => exact ⟨rfl, hx⟩
        case round =>
          obtain ⟨rfl, hx⟩ := hrel
          go_wp2_with fail
          go_loopw [14] (fun i wr => i = .int .i64 0 ∧ Ext w wr) (fun _ _ => 0)
          case atStart => exact ⟨rfl, hx⟩
          case round =>
            obtain ⟨rfl, hx⟩ := hrel
            go_wp2_with fail
            go_ret
            exact ⟨rfl, hx⟩
theorem infoNames : (Tryz.prog.info? 253).map (fun i => (i.zero, i.size, i.bytes)) = some (some (.slice none 0 0), 1, 24) := by kernel_rfl
set_option maxRecDepth 100000 in
theorem nilNames (w : World) : Calls Tryz.prog 119 #[.slice none 0 0] w fun e w' => e = .returned (.bool true) ∧ Ext w w' := by
  obtain ⟨i0, hi, hz0, hz1, hz2⟩ := info_parts infoNames
  go_enter Tryz.func119, Tryz.ntmps119
  go_wp2_with fail
  go_loopw [3] (fun i wr => i = .int .i64 0 ∧ Ext w wr) (fun _ _ => 0)
  case atStart => exact ⟨rfl, Below.refl _ _⟩
  case round =>
    obtain ⟨rfl, hx⟩ := hrel
    obtain ⟨wm, hmk, -, hg⟩ := run_make_full (P := Tryz.prog) wr 0 127 253 i0 _ 1 Tryz.underlying127 hi hz0 hz1 .i64 .i64 0 (by rw [hz2]; omega) (by unfold maxLen; omega) (Nat.zero_le _)
    have X := Lib.hid (Ext.trans hx (⟨hg.os, hg.tape, hg.output, hg.size, fun k hk => hg.block k hk (fun e => by cases e)⟩ : Ext wr wm))
    clear hx hg hi hz0 hz1 hz2
    simp only [Int.ofNat_zero] at hmk
    go_wp2_with fail
    go_loopw [6] (fun i wr => i = .int .i64 0 ∧ Ext w wr) (fun _ _ => 0)
    case atStart => exact ⟨rfl, X.out⟩
    case round =>
      obtain ⟨rfl, hx⟩ := hrel
      go_wp2_with fail
      go_loopw [9] (fun i wr => i = .int .i64 0 ∧ Ext w wr) (fun _ _ => 0)
      case atStart => exact ⟨rfl, hx⟩
      case round =>
        obtain ⟨rfl, hx⟩ := hrel
        go_wp2_with fail
        go_loopw [11] (fun i wr => i = .int .i64 0 ∧ Ext w wr) (fun _ _ => 0)
        case atStart => exact ⟨rfl, hx⟩
        case round =>
          obtain ⟨rfl, hx⟩ := hrel
          go_wp2_with fail
          go_loopw [14] (fun i wr => i = .int .i64 0 ∧ Ext w wr) (fun _ _ => 0)
          case atStart => exact ⟨rfl, hx⟩
          case round =>
            obtain ⟨rfl, hx⟩ := hrel
            go_wp2_with fail
            go_ret
            exact ⟨rfl, hx⟩
theorem infoActs : (Tryz.prog.info? 35).map (fun i => (i.zero, i.size, i.bytes)) = some (some (.slice none 0 0), 1, 24) := by kernel_rfl
set_option maxRecDepth 100000 in
theorem nilActs (w : World) : Calls Tryz.prog 120 #[.slice none 0 0] w fun e w' => e = .returned (.bool true) ∧ Ext w w' := by
  obtain ⟨i0, hi, hz0, hz1, hz2⟩ := info_parts infoActs
  go_enter Tryz.func120, Tryz.ntmps120
  go_wp2_with fail
  go_loopw [3] (fun i wr => i = .int .i64 0 ∧ Ext w wr) (fun _ _ => 0)
  case atStart => exact ⟨rfl, Below.refl _ _⟩
  case round =>
    obtain ⟨rfl, hx⟩ := hrel
    obtain ⟨wm, hmk, -, hg⟩ := run_make_full (P := Tryz.prog) wr 0 71 35 i0 _ 1 Tryz.underlying71 hi hz0 hz1 .i64 .i64 0 (by rw [hz2]; omega) (by unfold maxLen; omega) (Nat.zero_le _)
    have X := Lib.hid (Ext.trans hx (⟨hg.os, hg.tape, hg.output, hg.size, fun k hk => hg.block k hk (fun e => by cases e)⟩ : Ext wr wm))
    clear hx hg hi hz0 hz1 hz2
    simp only [Int.ofNat_zero] at hmk
    go_wp2_with fail
    go_loopw [6] (fun i wr => i = .int .i64 0 ∧ Ext w wr) (fun _ _ => 0)
    case atStart => exact ⟨rfl, X.out⟩
    case round =>
      obtain ⟨rfl, hx⟩ := hrel
      go_wp2_with fail
      go_loopw [9] (fun i wr => i = .int .i64 0 ∧ Ext w wr) (fun _ _ => 0)
      case atStart => exact ⟨rfl, hx⟩
      case round =>
        obtain ⟨rfl, hx⟩ := hrel
        go_wp2_with fail
        go_loopw [11] (fun i wr => i = .int .i64 0 ∧ Ext w wr) (fun _ _ => 0)
        case atStart => exact ⟨rfl, hx⟩
        case round =>
          obtain ⟨rfl, hx⟩ := hrel
          go_wp2_with fail
          go_loopw [14] (fun i wr => i = .int .i64 0 ∧ Ext w wr) (fun _ _ => 0)
          case atStart => exact ⟨rfl, hx⟩
          case round =>
            obtain ⟨rfl, hx⟩ := hrel
            go_wp2_with fail
            go_ret
            exact ⟨rfl, hx⟩
theorem infoReads : (Tryz.prog.info? 36).map (fun i => (i.zero, i.size, i.bytes)) = some (some (.slice none 0 0), 1, 24) := by kernel_rfl
set_option maxRecDepth 100000 in
theorem nilReads (w : World) : Calls Tryz.prog 121 #[.slice none 0 0] w fun e w' => e = .returned (.bool true) ∧ Ext w w' := by
  obtain ⟨i0, hi, hz0, hz1, hz2⟩ := info_parts infoReads
  go_enter Tryz.func121, Tryz.ntmps121
  go_wp2_with fail
  go_loopw [3] (fun i wr => i = .int .i64 0 ∧ Ext w wr) (fun _ _ => 0)
  case atStart => exact ⟨rfl, Below.refl _ _⟩
  case round =>
    obtain ⟨rfl, hx⟩ := hrel
    obtain ⟨wm, hmk, -, hg⟩ := run_make_full (P := Tryz.prog) wr 0 95 36 i0 _ 1 Tryz.underlying95 hi hz0 hz1 .i64 .i64 0 (by rw [hz2]; omega) (by unfold maxLen; omega) (Nat.zero_le _)
    have X := Lib.hid (Ext.trans hx (⟨hg.os, hg.tape, hg.output, hg.size, fun k hk => hg.block k hk (fun e => by cases e)⟩ : Ext wr wm))
    clear hx hg hi hz0 hz1 hz2
    simp only [Int.ofNat_zero] at hmk
    go_wp2_with fail
    go_loopw [6] (fun i wr => i = .int .i64 0 ∧ Ext w wr) (fun _ _ => 0)
    case atStart => exact ⟨rfl, X.out⟩
    case round =>
      obtain ⟨rfl, hx⟩ := hrel
      go_wp2_with fail
      go_loopw [9] (fun i wr => i = .int .i64 0 ∧ Ext w wr) (fun _ _ => 0)
      case atStart => exact ⟨rfl, hx⟩
      case round =>
        obtain ⟨rfl, hx⟩ := hrel
        go_wp2_with fail
        go_loopw [11] (fun i wr => i = .int .i64 0 ∧ Ext w wr) (fun _ _ => 0)
        case atStart => exact ⟨rfl, hx⟩
        case round =>
          obtain ⟨rfl, hx⟩ := hrel
          go_wp2_with fail
          go_loopw [14] (fun i wr => i = .int .i64 0 ∧ Ext w wr) (fun _ _ => 0)
          case atStart => exact ⟨rfl, hx⟩
          case round =>
            obtain ⟨rfl, hx⟩ := hrel
            go_wp2_with fail
            go_ret
            exact ⟨rfl, hx⟩
theorem infoLines : (Tryz.prog.info? 32).map (fun i => (i.zero, i.size, i.bytes)) = some (some (.slice none 0 0), 1, 24) := by kernel_rfl
set_option maxRecDepth 100000 in
theorem nilLines (w : World) : Calls Tryz.prog 122 #[.slice none 0 0] w fun e w' => e = .returned (.bool true) ∧ Ext w w' := by
  obtain ⟨i0, hi, hz0, hz1, hz2⟩ := info_parts infoLines
  go_enter Tryz.func122, Tryz.ntmps122
  go_wp2_with fail
  go_loopw [3] (fun i wr => i = .int .i64 0 ∧ Ext w wr) (fun _ _ => 0)
  case atStart => exact ⟨rfl, Below.refl _ _⟩
  case round =>
    obtain ⟨rfl, hx⟩ := hrel
    obtain ⟨wm, hmk, -, hg⟩ := run_make_full (P := Tryz.prog) wr 0 48 32 i0 _ 1 Tryz.underlying48 hi hz0 hz1 .i64 .i64 0 (by rw [hz2]; omega) (by unfold maxLen; omega) (Nat.zero_le _)
    have X := Lib.hid (Ext.trans hx (⟨hg.os, hg.tape, hg.output, hg.size, fun k hk => hg.block k hk (fun e => by cases e)⟩ : Ext wr wm))
    clear hx hg hi hz0 hz1 hz2
    simp only [Int.ofNat_zero] at hmk
    go_wp2_with fail
    go_loopw [6] (fun i wr => i = .int .i64 0 ∧ Ext w wr) (fun _ _ => 0)
    case atStart => exact ⟨rfl, X.out⟩
    case round =>
      obtain ⟨rfl, hx⟩ := hrel
      go_wp2_with fail
      go_loopw [9] (fun i wr => i = .int .i64 0 ∧ Ext w wr) (fun _ _ => 0)
      case atStart => exact ⟨rfl, hx⟩
      case round =>
        obtain ⟨rfl, hx⟩ := hrel
        go_wp2_with fail
        go_loopw [11] (fun i wr => i = .int .i64 0 ∧ Ext w wr) (fun _ _ => 0)
        case atStart => exact ⟨rfl, hx⟩
        case round =>
          obtain ⟨rfl, hx⟩ := hrel
          go_wp2_with fail
          go_loopw [14] (fun i wr => i = .int .i64 0 ∧ Ext w wr) (fun _ _ => 0)
          case atStart => exact ⟨rfl, hx⟩
          case round =>
            obtain ⟨rfl, hx⟩ := hrel
            go_wp2_with fail
            go_ret
            exact ⟨rfl, hx⟩
theorem infoHolds : (Tryz.prog.info? 255).map (fun i => (i.zero, i.size, i.bytes)) = some (some (.slice none 0 0), 1, 24) := by kernel_rfl
set_option maxRecDepth 100000 in
theorem nilHolds (w : World) : Calls Tryz.prog 123 #[.slice none 0 0] w fun e w' => e = .returned (.bool true) ∧ Ext w w' := by
  obtain ⟨i0, hi, hz0, hz1, hz2⟩ := info_parts infoHolds
  go_enter Tryz.func123, Tryz.ntmps123
  go_wp2_with fail
  go_loopw [3] (fun i wr => i = .int .i64 0 ∧ Ext w wr) (fun _ _ => 0)
  case atStart => exact ⟨rfl, Below.refl _ _⟩
  case round =>
    obtain ⟨rfl, hx⟩ := hrel
    obtain ⟨wm, hmk, -, hg⟩ := run_make_full (P := Tryz.prog) wr 0 128 255 i0 _ 1 Tryz.underlying128 hi hz0 hz1 .i64 .i64 0 (by rw [hz2]; omega) (by unfold maxLen; omega) (Nat.zero_le _)
    have X := Lib.hid (Ext.trans hx (⟨hg.os, hg.tape, hg.output, hg.size, fun k hk => hg.block k hk (fun e => by cases e)⟩ : Ext wr wm))
    clear hx hg hi hz0 hz1 hz2
    simp only [Int.ofNat_zero] at hmk
    go_wp2_with fail
    go_loopw [6] (fun i wr => i = .int .i64 0 ∧ Ext w wr) (fun _ _ => 0)
    case atStart => exact ⟨rfl, X.out⟩
    case round =>
      obtain ⟨rfl, hx⟩ := hrel
      go_wp2_with fail
      go_loopw [9] (fun i wr => i = .int .i64 0 ∧ Ext w wr) (fun _ _ => 0)
      case atStart => exact ⟨rfl, hx⟩
      case round =>
        obtain ⟨rfl, hx⟩ := hrel
        go_wp2_with fail
        go_loopw [11] (fun i wr => i = .int .i64 0 ∧ Ext w wr) (fun _ _ => 0)
        case atStart => exact ⟨rfl, hx⟩
        case round =>
          obtain ⟨rfl, hx⟩ := hrel
          go_wp2_with fail
          go_loopw [14] (fun i wr => i = .int .i64 0 ∧ Ext w wr) (fun _ _ => 0)
          case atStart => exact ⟨rfl, hx⟩
          case round =>
            obtain ⟨rfl, hx⟩ := hrel
            go_wp2_with fail
            go_ret
            exact ⟨rfl, hx⟩
theorem infoConfigs : (Tryz.prog.info? 260).map (fun i => (i.zero, i.size, i.bytes)) = some (some (.slice none 0 0), 1, 24) := by kernel_rfl
set_option maxRecDepth 100000 in
theorem nilConfigs (w : World) : Calls Tryz.prog 124 #[.slice none 0 0] w fun e w' => e = .returned (.bool true) ∧ Ext w w' := by
  obtain ⟨i0, hi, hz0, hz1, hz2⟩ := info_parts infoConfigs
  go_enter Tryz.func124, Tryz.ntmps124
  go_wp2_with fail
  go_loopw [3] (fun i wr => i = .int .i64 0 ∧ Ext w wr) (fun _ _ => 0)
  case atStart => exact ⟨rfl, Below.refl _ _⟩
  case round =>
    obtain ⟨rfl, hx⟩ := hrel
    obtain ⟨wm, hmk, -, hg⟩ := run_make_full (P := Tryz.prog) wr 0 129 260 i0 _ 1 Tryz.underlying129 hi hz0 hz1 .i64 .i64 0 (by rw [hz2]; omega) (by unfold maxLen; omega) (Nat.zero_le _)
    have X := Lib.hid (Ext.trans hx (⟨hg.os, hg.tape, hg.output, hg.size, fun k hk => hg.block k hk (fun e => by cases e)⟩ : Ext wr wm))
    clear hx hg hi hz0 hz1 hz2
    simp only [Int.ofNat_zero] at hmk
    go_wp2_with fail
    go_loopw [6] (fun i wr => i = .int .i64 0 ∧ Ext w wr) (fun _ _ => 0)
    case atStart => exact ⟨rfl, X.out⟩
    case round =>
      obtain ⟨rfl, hx⟩ := hrel
      go_wp2_with fail
      go_loopw [9] (fun i wr => i = .int .i64 0 ∧ Ext w wr) (fun _ _ => 0)
      case atStart => exact ⟨rfl, hx⟩
      case round =>
        obtain ⟨rfl, hx⟩ := hrel
        go_wp2_with fail
        go_loopw [11] (fun i wr => i = .int .i64 0 ∧ Ext w wr) (fun _ _ => 0)
        case atStart => exact ⟨rfl, hx⟩
        case round =>
          obtain ⟨rfl, hx⟩ := hrel
          go_wp2_with fail
          go_loopw [14] (fun i wr => i = .int .i64 0 ∧ Ext w wr) (fun _ _ => 0)
          case atStart => exact ⟨rfl, hx⟩
          case round =>
            obtain ⟨rfl, hx⟩ := hrel
            go_wp2_with fail
            go_ret
            exact ⟨rfl, hx⟩
theorem infoEntries : (Tryz.prog.info? 265).map (fun i => (i.zero, i.size, i.bytes)) = some (some (.slice none 0 0), 1, 24) := by kernel_rfl
set_option maxRecDepth 100000 in
theorem nilEntries (w : World) : Calls Tryz.prog 125 #[.slice none 0 0] w fun e w' => e = .returned (.bool true) ∧ Ext w w' := by
  obtain ⟨i0, hi, hz0, hz1, hz2⟩ := info_parts infoEntries
  go_enter Tryz.func125, Tryz.ntmps125
  go_wp2_with fail
  go_loopw [3] (fun i wr => i = .int .i64 0 ∧ Ext w wr) (fun _ _ => 0)
  case atStart => exact ⟨rfl, Below.refl _ _⟩
  case round =>
    obtain ⟨rfl, hx⟩ := hrel
    obtain ⟨wm, hmk, -, hg⟩ := run_make_full (P := Tryz.prog) wr 0 130 265 i0 _ 1 Tryz.underlying130 hi hz0 hz1 .i64 .i64 0 (by rw [hz2]; omega) (by unfold maxLen; omega) (Nat.zero_le _)
    have X := Lib.hid (Ext.trans hx (⟨hg.os, hg.tape, hg.output, hg.size, fun k hk => hg.block k hk (fun e => by cases e)⟩ : Ext wr wm))
    clear hx hg hi hz0 hz1 hz2
    simp only [Int.ofNat_zero] at hmk
    go_wp2_with fail
    go_loopw [6] (fun i wr => i = .int .i64 0 ∧ Ext w wr) (fun _ _ => 0)
    case atStart => exact ⟨rfl, X.out⟩
    case round =>
      obtain ⟨rfl, hx⟩ := hrel
      go_wp2_with fail
      go_loopw [9] (fun i wr => i = .int .i64 0 ∧ Ext w wr) (fun _ _ => 0)
      case atStart => exact ⟨rfl, hx⟩
      case round =>
        obtain ⟨rfl, hx⟩ := hrel
        go_wp2_with fail
        go_loopw [11] (fun i wr => i = .int .i64 0 ∧ Ext w wr) (fun _ _ => 0)
        case atStart => exact ⟨rfl, hx⟩
        case round =>
          obtain ⟨rfl, hx⟩ := hrel
          go_wp2_with fail
          go_loopw [14] (fun i wr => i = .int .i64 0 ∧ Ext w wr) (fun _ _ => 0)
          case atStart => exact ⟨rfl, hx⟩
          case round =>
            obtain ⟨rfl, hx⟩ := hrel
            go_wp2_with fail
            go_ret
            exact ⟨rfl, hx⟩
theorem infoBases : (Tryz.prog.info? 271).map (fun i => (i.zero, i.size, i.bytes)) = some (some (.slice none 0 0), 1, 24) := by kernel_rfl
set_option maxRecDepth 100000 in
theorem nilBases (w : World) : Calls Tryz.prog 126 #[.slice none 0 0] w fun e w' => e = .returned (.bool true) ∧ Ext w w' := by
  obtain ⟨i0, hi, hz0, hz1, hz2⟩ := info_parts infoBases
  go_enter Tryz.func126, Tryz.ntmps126
  go_wp2_with fail
  go_loopw [3] (fun i wr => i = .int .i64 0 ∧ Ext w wr) (fun _ _ => 0)
  case atStart => exact ⟨rfl, Below.refl _ _⟩
  case round =>
    obtain ⟨rfl, hx⟩ := hrel
    obtain ⟨wm, hmk, -, hg⟩ := run_make_full (P := Tryz.prog) wr 0 131 271 i0 _ 1 Tryz.underlying131 hi hz0 hz1 .i64 .i64 0 (by rw [hz2]; omega) (by unfold maxLen; omega) (Nat.zero_le _)
    have X := Lib.hid (Ext.trans hx (⟨hg.os, hg.tape, hg.output, hg.size, fun k hk => hg.block k hk (fun e => by cases e)⟩ : Ext wr wm))
    clear hx hg hi hz0 hz1 hz2
    simp only [Int.ofNat_zero] at hmk
    go_wp2_with fail
    go_loopw [6] (fun i wr => i = .int .i64 0 ∧ Ext w wr) (fun _ _ => 0)
    case atStart => exact ⟨rfl, X.out⟩
    case round =>
      obtain ⟨rfl, hx⟩ := hrel
      go_wp2_with fail
      go_loopw [9] (fun i wr => i = .int .i64 0 ∧ Ext w wr) (fun _ _ => 0)
      case atStart => exact ⟨rfl, hx⟩
      case round =>
        obtain ⟨rfl, hx⟩ := hrel
        go_wp2_with fail
        go_loopw [11] (fun i wr => i = .int .i64 0 ∧ Ext w wr) (fun _ _ => 0)
        case atStart => exact ⟨rfl, hx⟩
        case round =>
          obtain ⟨rfl, hx⟩ := hrel
          go_wp2_with fail
          go_loopw [14] (fun i wr => i = .int .i64 0 ∧ Ext w wr) (fun _ _ => 0)
          case atStart => exact ⟨rfl, hx⟩
          case round =>
            obtain ⟨rfl, hx⟩ := hrel
            go_wp2_with fail
            go_ret
            exact ⟨rfl, hx⟩
theorem infoImages : (Tryz.prog.info? 276).map (fun i => (i.zero, i.size, i.bytes)) = some (some (.slice none 0 0), 1, 24) := by kernel_rfl
set_option maxRecDepth 100000 in
theorem nilImages (w : World) : Calls Tryz.prog 127 #[.slice none 0 0] w fun e w' => e = .returned (.bool true) ∧ Ext w w' := by
  obtain ⟨i0, hi, hz0, hz1, hz2⟩ := info_parts infoImages
  go_enter Tryz.func127, Tryz.ntmps127
  go_wp2_with fail
  go_loopw [3] (fun i wr => i = .int .i64 0 ∧ Ext w wr) (fun _ _ => 0)
  case atStart => exact ⟨rfl, Below.refl _ _⟩
  case round =>
    obtain ⟨rfl, hx⟩ := hrel
    obtain ⟨wm, hmk, -, hg⟩ := run_make_full (P := Tryz.prog) wr 0 132 276 i0 _ 1 Tryz.underlying132 hi hz0 hz1 .i64 .i64 0 (by rw [hz2]; omega) (by unfold maxLen; omega) (Nat.zero_le _)
    have X := Lib.hid (Ext.trans hx (⟨hg.os, hg.tape, hg.output, hg.size, fun k hk => hg.block k hk (fun e => by cases e)⟩ : Ext wr wm))
    clear hx hg hi hz0 hz1 hz2
    simp only [Int.ofNat_zero] at hmk
    go_wp2_with fail
    go_loopw [6] (fun i wr => i = .int .i64 0 ∧ Ext w wr) (fun _ _ => 0)
    case atStart => exact ⟨rfl, X.out⟩
    case round =>
      obtain ⟨rfl, hx⟩ := hrel
      go_wp2_with fail
      go_loopw [9] (fun i wr => i = .int .i64 0 ∧ Ext w wr) (fun _ _ => 0)
      case atStart => exact ⟨rfl, hx⟩
      case round =>
        obtain ⟨rfl, hx⟩ := hrel
        go_wp2_with fail
        go_loopw [11] (fun i wr => i = .int .i64 0 ∧ Ext w wr) (fun _ _ => 0)
        case atStart => exact ⟨rfl, hx⟩
        case round =>
          obtain ⟨rfl, hx⟩ := hrel
          go_wp2_with fail
          go_loopw [14] (fun i wr => i = .int .i64 0 ∧ Ext w wr) (fun _ _ => 0)
          case atStart => exact ⟨rfl, hx⟩
          case round =>
            obtain ⟨rfl, hx⟩ := hrel
            go_wp2_with fail
            go_ret
            exact ⟨rfl, hx⟩
theorem infoLetters : (Tryz.prog.info? 281).map (fun i => (i.zero, i.size, i.bytes)) = some (some (.slice none 0 0), 1, 24) := by kernel_rfl
set_option maxRecDepth 100000 in
theorem nilLetters (w : World) : Calls Tryz.prog 128 #[.slice none 0 0] w fun e w' => e = .returned (.bool true) ∧ Ext w w' := by
  obtain ⟨i0, hi, hz0, hz1, hz2⟩ := info_parts infoLetters
  go_enter Tryz.func128, Tryz.ntmps128
  go_wp2_with fail
  go_loopw [3] (fun i wr => i = .int .i64 0 ∧ Ext w wr) (fun _ _ => 0)
  case atStart => exact ⟨rfl, Below.refl _ _⟩
  case round =>
    obtain ⟨rfl, hx⟩ := hrel
    obtain ⟨wm, hmk, -, hg⟩ := run_make_full (P := Tryz.prog) wr 0 133 281 i0 _ 1 Tryz.underlying133 hi hz0 hz1 .i64 .i64 0 (by rw [hz2]; omega) (by unfold maxLen; omega) (Nat.zero_le _)
    have X := Lib.hid (Ext.trans hx (⟨hg.os, hg.tape, hg.output, hg.size, fun k hk => hg.block k hk (fun e => by cases e)⟩ : Ext wr wm))
    clear hx hg hi hz0 hz1 hz2
    simp only [Int.ofNat_zero] at hmk
    go_wp2_with fail
    go_loopw [6] (fun i wr => i = .int .i64 0 ∧ Ext w wr) (fun _ _ => 0)
    case atStart => exact ⟨rfl, X.out⟩
    case round =>
      obtain ⟨rfl, hx⟩ := hrel
      go_wp2_with fail
      go_loopw [9] (fun i wr => i = .int .i64 0 ∧ Ext w wr) (fun _ _ => 0)
      case atStart => exact ⟨rfl, hx⟩
      case round =>
        obtain ⟨rfl, hx⟩ := hrel
        go_wp2_with fail
        go_loopw [11] (fun i wr => i = .int .i64 0 ∧ Ext w wr) (fun _ _ => 0)
        case atStart => exact ⟨rfl, hx⟩
        case round =>
          obtain ⟨rfl, hx⟩ := hrel
          go_wp2_with fail
          go_loopw [14] (fun i wr => i = .int .i64 0 ∧ Ext w wr) (fun _ _ => 0)
          case atStart => exact ⟨rfl, hx⟩
          case round =>
            obtain ⟨rfl, hx⟩ := hrel
            go_wp2_with fail
            go_ret
            exact ⟨rfl, hx⟩
theorem infoStretches : (Tryz.prog.info? 287).map (fun i => (i.zero, i.size, i.bytes)) = some (some (.slice none 0 0), 1, 24) := by kernel_rfl
set_option maxRecDepth 100000 in
theorem nilStretches (w : World) : Calls Tryz.prog 129 #[.slice none 0 0] w fun e w' => e = .returned (.bool true) ∧ Ext w w' := by
  obtain ⟨i0, hi, hz0, hz1, hz2⟩ := info_parts infoStretches
  go_enter Tryz.func129, Tryz.ntmps129
  go_wp2_with fail
  go_loopw [3] (fun i wr => i = .int .i64 0 ∧ Ext w wr) (fun _ _ => 0)
  case atStart => exact ⟨rfl, Below.refl _ _⟩
  case round =>
    obtain ⟨rfl, hx⟩ := hrel
    obtain ⟨wm, hmk, -, hg⟩ := run_make_full (P := Tryz.prog) wr 0 134 287 i0 _ 1 Tryz.underlying134 hi hz0 hz1 .i64 .i64 0 (by rw [hz2]; omega) (by unfold maxLen; omega) (Nat.zero_le _)
    have X := Lib.hid (Ext.trans hx (⟨hg.os, hg.tape, hg.output, hg.size, fun k hk => hg.block k hk (fun e => by cases e)⟩ : Ext wr wm))
    clear hx hg hi hz0 hz1 hz2
    simp only [Int.ofNat_zero] at hmk
    go_wp2_with fail
    go_loopw [6] (fun i wr => i = .int .i64 0 ∧ Ext w wr) (fun _ _ => 0)
    case atStart => exact ⟨rfl, X.out⟩
    case round =>
      obtain ⟨rfl, hx⟩ := hrel
      go_wp2_with fail
      go_loopw [9] (fun i wr => i = .int .i64 0 ∧ Ext w wr) (fun _ _ => 0)
      case atStart => exact ⟨rfl, hx⟩
      case round =>
        obtain ⟨rfl, hx⟩ := hrel
        go_wp2_with fail
        go_loopw [11] (fun i wr => i = .int .i64 0 ∧ Ext w wr) (fun _ _ => 0)
        case atStart => exact ⟨rfl, hx⟩
        case round =>
          obtain ⟨rfl, hx⟩ := hrel
          go_wp2_with fail
          go_loopw [14] (fun i wr => i = .int .i64 0 ∧ Ext w wr) (fun _ _ => 0)
          case atStart => exact ⟨rfl, hx⟩
          case round =>
            obtain ⟨rfl, hx⟩ := hrel
            go_wp2_with fail
            go_ret
            exact ⟨rfl, hx⟩
theorem infoPeers : (Tryz.prog.info? 289).map (fun i => (i.zero, i.size, i.bytes)) = some (some (.slice none 0 0), 1, 24) := by kernel_rfl
set_option maxRecDepth 100000 in
theorem nilPeers (w : World) : Calls Tryz.prog 130 #[.slice none 0 0] w fun e w' => e = .returned (.bool true) ∧ Ext w w' := by
  obtain ⟨i0, hi, hz0, hz1, hz2⟩ := info_parts infoPeers
  go_enter Tryz.func130, Tryz.ntmps130
  go_wp2_with fail
  go_loopw [3] (fun i wr => i = .int .i64 0 ∧ Ext w wr) (fun _ _ => 0)
  case atStart => exact ⟨rfl, Below.refl _ _⟩
  case round =>
    obtain ⟨rfl, hx⟩ := hrel
    obtain ⟨wm, hmk, -, hg⟩ := run_make_full (P := Tryz.prog) wr 0 135 289 i0 _ 1 Tryz.underlying135 hi hz0 hz1 .i64 .i64 0 (by rw [hz2]; omega) (by unfold maxLen; omega) (Nat.zero_le _)
    have X := Lib.hid (Ext.trans hx (⟨hg.os, hg.tape, hg.output, hg.size, fun k hk => hg.block k hk (fun e => by cases e)⟩ : Ext wr wm))
    clear hx hg hi hz0 hz1 hz2
    simp only [Int.ofNat_zero] at hmk
    go_wp2_with fail
    go_loopw [6] (fun i wr => i = .int .i64 0 ∧ Ext w wr) (fun _ _ => 0)
    case atStart => exact ⟨rfl, X.out⟩
    case round =>
      obtain ⟨rfl, hx⟩ := hrel
      go_wp2_with fail
      go_loopw [9] (fun i wr => i = .int .i64 0 ∧ Ext w wr) (fun _ _ => 0)
      case atStart => exact ⟨rfl, hx⟩
      case round =>
        obtain ⟨rfl, hx⟩ := hrel
        go_wp2_with fail
        go_loopw [11] (fun i wr => i = .int .i64 0 ∧ Ext w wr) (fun _ _ => 0)
        case atStart => exact ⟨rfl, hx⟩
        case round =>
          obtain ⟨rfl, hx⟩ := hrel
          go_wp2_with fail
          go_loopw [14] (fun i wr => i = .int .i64 0 ∧ Ext w wr) (fun _ _ => 0)
          case atStart => exact ⟨rfl, hx⟩
          case round =>
            obtain ⟨rfl, hx⟩ := hrel
            go_wp2_with fail
            go_ret
            exact ⟨rfl, hx⟩
end Go.Proofs.YtngahblgicjoiaaGreatDoor
